/- A program logic over the model: what a call does is shown of trees of data (part 0). It holds of every program of the model. -/
import GoSem.Core.Value
import Derived.RowKit3
import Derived.Below
import Derived.Calls
import Derived.Laws.Entries
import Derived.Laws.Cells
import Derived.Laws.Tables
import Derived.Deep.AppendSrc
import Derived.Laws.MakeOwn
import Derived.Laws.AppendOwn
/- Trees of owned data, places in them, and how a change of one cell is seen at each place. -/
set_option linter.unusedVariables false
namespace Go.Proofs.Ythlehngbadianaa.Ai
open Go

inductive Base where
  | sl (k : Nat)
  | bx (t : Nat)
  deriving DecidableEq, Repr

abbrev Hop := Nat × Nat

structure Pl where
  base : Base
  path : List Hop
  j : Nat
  deriving DecidableEq, Repr

inductive AV where
  | v (x : Value)
  | junk
  | agg (cs : List AV)
  | tup (shape : List (Option Nat)) (cs : List AV)
  | own (es : Nat) (xs : List AV)
  | obj (x : AV)
  | sl (p : Pl) (es off len : Nat)
  | sa (p : Pl) (es len cap : Nat)
  | ptr (p : Pl)
  | up (x : AV)
  | fn (f : FuncId) (caps : List AV)
  | lapp (p : Pl) (es off n : Nat) (ys : List AV)
  deriving Inhabited

/-- The flat cells of a value. -/
def AV.cells : AV → List AV
  | .agg cs => cs
  | .tup _ cs => cs
  | x => [x]

/-- One cell: no struct, no tuple. -/
def AV.one : AV → Bool
  | .agg _ => false
  | .tup _ _ => false
  | _ => true

theorem AV.cells_one {x : AV} (h : x.one = true) : x.cells = [x] := by cases x <;> simp_all [AV.one, AV.cells]

def AV.setCell (x : AV) (j : Nat) (c : AV) : AV :=
  match x with
  | .agg cs => .agg (cs.set j c)
  | .tup s cs => .tup s (cs.set j c)
  | x => if j = 0 then c else x

theorem AV.cells_setCell (x : AV) (j : Nat) (c : AV) (hc : c.one = true) : (x.setCell j c).cells = x.cells.set j c := by
  cases hx : x.one with
  | false => cases x <;> simp [AV.one] at hx <;> rfl
  | true =>
    have h : x.setCell j c = if j = 0 then c else x := by cases x <;> first | rfl | simp [AV.one] at hx
    rw [h, AV.cells_one hx]
    cases j with
    | zero => simp [AV.cells_one hc]
    | succ j => simp [AV.cells_one hx]

/-- A hop within a cell: the element i of an owned list, or what an owned pointer points to. -/
def AV.elem (c : AV) (i : Nat) : Option AV :=
  match c with
  | .own _ xs => xs[i]?
  | .obj x => if i = 0 then some x else none
  | _ => none

def AV.setElem (c : AV) (i : Nat) (x : AV) : AV :=
  match c with
  | .own es xs => .own es (xs.set i x)
  | .obj y => if i = 0 then .obj x else .obj y
  | c => c

/-- The node that a path leads to (the innermost hop stands first). -/
def AV.sub (x : AV) : List Hop → Option AV
  | [] => some x
  | (j, i) :: par => (x.sub par).bind fun y => (y.cells[j]?).bind fun c => c.elem i

def AV.cellIn (x : AV) (path : List Hop) (j : Nat) : Option AV := (x.sub path).bind fun y => y.cells[j]?

theorem AV.sub_cons (x : AV) (j i : Nat) (par : List Hop) : x.sub ((j, i) :: par) = (x.cellIn par j).bind fun c => c.elem i := by
  simp only [AV.sub, AV.cellIn]
  cases x.sub par <;> simp

/-- Puts a node into the place of another one. -/
def AV.setSub (x : AV) : List Hop → AV → AV
  | [], y => y
  | (j, i) :: par, y =>
    match x.sub par with
    | none => x
    | some z =>
      match z.cells[j]? with
      | none => x
      | some c => x.setSub par (z.setCell j (c.setElem i y))

def AV.setC (x : AV) (path : List Hop) (j : Nat) (c : AV) : AV :=
  match x.sub path with
  | none => x
  | some y => x.setSub path (y.setCell j c)

/-- What of a cell is seen without going on into what it owns. -/
inductive Sh where
  | val (x : Value)
  | junk
  | own (es n : Nat)
  | obj
  | ref (x : AV)
  | bad

def AV.sh : AV → Sh
  | .v x => .val x
  | .junk => .junk
  | .own es xs => .own es xs.length
  | .obj _ => .obj
  | .agg _ => .bad
  | .tup _ _ => .bad
  | x => .ref x

/-- The cells of a node, as far as they are seen. -/
def AV.row (x : AV) (path : List Hop) : Option (List Sh) := (x.sub path).map fun y => y.cells.map AV.sh

theorem AV.elem_setElem (c : AV) (i : Nat) (x : AV) (i' : Nat) (h : (c.elem i).isSome) : (c.setElem i x).elem i' = if i' = i then some x else c.elem i' := by
  cases c
  case own es xs =>
    simp only [AV.elem, AV.setElem] at h ⊢
    rw [List.getElem?_set]
    by_cases hh : i' = i
    · subst hh; simp_all
    · simp [hh, Ne.symm hh]
  case obj y =>
    simp only [AV.elem] at h
    by_cases hi : i = 0
    · subst hi
      by_cases hh : i' = 0 <;> simp [AV.setElem, hh, AV.elem]
    · simp [hi] at h
  all_goals simp [AV.elem] at h

theorem AV.sh_setElem (c : AV) (i : Nat) (x : AV) : (c.setElem i x).sh = c.sh := by
  cases c
  case own es xs => simp [AV.setElem, AV.sh]
  case obj y => by_cases hi : i = 0 <;> simp [AV.setElem, hi, AV.sh]
  all_goals rfl

theorem AV.one_setElem (c : AV) (i : Nat) (x : AV) : (c.setElem i x).one = c.one := by
  cases c
  case own es xs => simp [AV.setElem, AV.one]
  case obj y => by_cases hi : i = 0 <;> simp [AV.setElem, hi, AV.one]
  all_goals rfl

theorem AV.sub_append (x : AV) (r par : List Hop) : x.sub (r ++ par) = (x.sub par).bind fun y => y.sub r := by
  induction r with
  | nil => cases h : x.sub par <;> simp [AV.sub, h]
  | cons a r ih =>
    obtain ⟨j, i⟩ := a
    simp only [List.cons_append, AV.sub, ih]
    cases x.sub par <;> simp

theorem AV.elem_one {c : AV} {i : Nat} {x : AV} (h : c.elem i = some x) : c.one = true := by
  cases c <;> simp_all [AV.elem, AV.one]

theorem AV.sub_setSub_same (x : AV) (path : List Hop) : ∀ z y : AV, x.sub path = some z → (x.setSub path y).sub path = some y := by
  induction path with
  | nil => intro z y _; rfl
  | cons a par ih =>
    obtain ⟨j, i⟩ := a
    intro z y hz
    simp only [AV.sub, Option.bind_eq_some_iff] at hz
    obtain ⟨z0, hz0, c, hc, he⟩ := hz
    simp only [AV.setSub, hz0, hc]
    have h1 := ih z0 (z0.setCell j (c.setElem i y)) hz0
    simp only [AV.sub, h1, Option.bind_some]
    rw [AV.cells_setCell _ _ _ (by rw [AV.one_setElem]; exact AV.elem_one he)]
    have hj : j < z0.cells.length := (List.getElem?_eq_some_iff.1 hc).1
    rw [List.getElem?_set_self hj]
    simp only [Option.bind_some]
    rw [AV.elem_setElem c i y i (by rw [he]; rfl)]
    simp

theorem AV.sub_setSub_below (x : AV) (path r : List Hop) (z y : AV) (h : x.sub path = some z) : (x.setSub path y).sub (r ++ path) = y.sub r := by
  rw [AV.sub_append, AV.sub_setSub_same x path z y h]; rfl

theorem AV.row_setElem_cell (z0 c y : AV) (j i : Nat) (r : List Hop) (hc : z0.cells[j]? = some c) (he : (c.elem i).isSome) (hr : ∀ r', r ≠ r' ++ [(j, i)]) :
    (z0.setCell j (c.setElem i y)).row r = z0.row r := by
  have hone : (c.setElem i y).one = true := by
    rw [AV.one_setElem]; cases h : c.elem i with
    | none => simp [h] at he
    | some q => exact AV.elem_one h
  rcases List.eq_nil_or_concat r with rfl | ⟨r', a, rfl⟩
  · simp only [AV.row, AV.sub, Option.map_some, AV.cells_setCell _ _ _ hone]
    congr 1
    apply List.ext_getElem?
    intro k
    simp only [List.getElem?_map, List.getElem?_set]
    by_cases hk : j = k
    · subst hk
      obtain ⟨hj, hcc⟩ := List.getElem?_eq_some_iff.1 hc
      simp [hj, hcc, AV.sh_setElem]
    · simp [hk]
  · obtain ⟨j2, i2⟩ := a
    simp only [List.concat_eq_append] at hr ⊢
    simp only [AV.row, AV.sub_append]
    have : (z0.setCell j (c.setElem i y)).sub [(j2, i2)] = z0.sub [(j2, i2)] := by
      simp only [AV.sub, Option.bind_some, AV.cells_setCell _ _ _ hone, List.getElem?_set]
      by_cases hk : j = j2
      · subst hk
        obtain ⟨hj, hcc⟩ := List.getElem?_eq_some_iff.1 hc
        have hi : i2 ≠ i := fun e => hr r' (by rw [e])
        simp [hj, hcc, AV.elem_setElem c i y i2 he, hi]
      · simp [hk]
    rw [this]

theorem AV.row_setSub_other (x : AV) (path : List Hop) : ∀ (z y : AV) (path' : List Hop), x.sub path = some z → (∀ r, path' ≠ r ++ path) → (x.setSub path y).row path' = x.row path' := by
  induction path with
  | nil => intro z y path' _ h; exact absurd (List.append_nil path').symm (h path')
  | cons a par ih =>
    obtain ⟨j, i⟩ := a
    intro z y path' hz hne
    simp only [AV.sub, Option.bind_eq_some_iff] at hz
    obtain ⟨z0, hz0, c, hc, he⟩ := hz
    simp only [AV.setSub, hz0, hc]
    by_cases hp : ∃ r, path' = r ++ par
    · obtain ⟨r, rfl⟩ := hp
      have h1 : (x.setSub par (z0.setCell j (c.setElem i y))).row (r ++ par) = (z0.setCell j (c.setElem i y)).row r := by
        simp only [AV.row, AV.sub_setSub_below x par r z0 _ hz0]
      have h2 : x.row (r ++ par) = z0.row r := by
        simp only [AV.row, AV.sub_append, hz0, Option.bind_some]
      rw [h1, h2]
      refine AV.row_setElem_cell z0 c y j i r hc (by rw [he]; rfl) (fun r' hr => ?_)
      subst hr
      exact hne r' (by simp)
    · exact ih z0 _ path' hz0 (fun r hr => hp ⟨r, hr⟩)

/-! What a change of one cell does to each row. -/
theorem AV.setC_eq {x : AV} {path : List Hop} {z : AV} (h : x.sub path = some z) (j : Nat) (c : AV) : x.setC path j c = x.setSub path (z.setCell j c) := by
  simp [AV.setC, h]

theorem AV.row_setC_here {x : AV} {path : List Hop} {z : AV} (h : x.sub path = some z) (j : Nat) (c : AV) (hc : c.one = true) :
    (x.setC path j c).row path = some ((z.cells.map AV.sh).set j c.sh) := by
  rw [AV.setC_eq h]
  simp only [AV.row, AV.sub_setSub_same x path z _ h, Option.map_some, AV.cells_setCell _ _ _ hc]
  rw [List.map_set]

theorem AV.sub_setC_below {x : AV} {path : List Hop} {z : AV} (h : x.sub path = some z) (j : Nat) (c : AV) (hc : c.one = true) (hj : j < z.cells.length) (r : List Hop) (i : Nat) :
    (x.setC path j c).sub (r ++ (j, i) :: path) = c.sub (r ++ [(0, i)]) := by
  rw [AV.setC_eq h, show r ++ (j, i) :: path = (r ++ [(j, i)]) ++ path by simp, AV.sub_setSub_below x path _ z _ h]
  simp only [AV.sub_append, AV.sub, Option.bind_some, AV.cells_setCell _ _ _ hc, List.getElem?_set_self hj, AV.cells_one hc]
  simp

theorem AV.row_setC_other {x : AV} {path : List Hop} {z : AV} (h : x.sub path = some z) (j : Nat) (c : AV) (hc : c.one = true) (hj : j < z.cells.length) (path' : List Hop) (hne : path' ≠ path)
    (hth : ∀ r i, path' ≠ r ++ (j, i) :: path) : (x.setC path j c).row path' = x.row path' := by
  rw [AV.setC_eq h]
  by_cases hp : ∃ r, path' = r ++ path
  · obtain ⟨r, rfl⟩ := hp
    rcases List.eq_nil_or_concat r with rfl | ⟨r', a, rfl⟩
    · simp at hne
    · obtain ⟨j2, i2⟩ := a
      simp only [List.concat_eq_append] at *
      have hjj : j ≠ j2 := fun e => hth r' i2 (by simp [e])
      simp only [AV.row, AV.sub_setSub_below x path _ z _ h]
      have : x.sub (r' ++ [(j2, i2)] ++ path) = z.sub (r' ++ [(j2, i2)]) := by rw [AV.sub_append, h]; rfl
      rw [this]
      simp only [AV.sub_append, AV.sub, Option.bind_some, AV.cells_setCell _ _ _ hc, List.getElem?_set_ne hjj]
  · exact AV.row_setSub_other x path z _ path' h (fun r hr => hp ⟨r, hr⟩)

end Go.Proofs.Ythlehngbadianaa.Ai
/- How a forest of owned data lies in a world's memory. -/
set_option linter.unusedVariables false
namespace Go.Proofs.Ythlehngbadianaa.Ai
open Go Go.RowKit

/-- Paths that lead through one cell. -/
def strip (p : List Hop) (j : Nat) : List Hop → Option (List Hop × Nat)
  | [] => none
  | a :: t => if t = p then (if a.1 = j then some ([], a.2) else none) else (strip p j t).map fun x => (a :: x.1, x.2)

theorem strip_some (p : List Hop) (j : Nat) : ∀ (path r : List Hop) (i : Nat), strip p j path = some (r, i) ↔ path = r ++ (j, i) :: p
  | [], r, i => by simp [strip]
  | a :: t, r, i => by
    simp only [strip]
    by_cases ht : t = p
    · subst ht
      simp only [if_true]
      constructor
      · intro h
        split at h
        · rename_i hj
          simp only [Option.some.injEq, Prod.mk.injEq] at h
          obtain ⟨rfl, rfl⟩ := h
          obtain ⟨a1, a2⟩ := a
          simp only at hj
          subst hj
          rfl
        · simp at h
      · intro h
        have hl : (a :: t).length = (r ++ (j, i) :: t).length := by rw [h]
        simp only [List.length_cons, List.length_append] at hl
        obtain rfl : r = [] := List.eq_nil_of_length_eq_zero (by omega)
        simp at h
        simp [h]
    · simp only [ht, if_false, Option.map_eq_some_iff]
      constructor
      · rintro ⟨⟨r', i'⟩, h1, h2⟩
        simp only [Prod.mk.injEq] at h2
        obtain ⟨rfl, rfl⟩ := h2
        rw [(strip_some p j t r' i').1 h1]; simp
      · intro h
        cases r with
        | nil => simp at h; exact absurd h.2 ht
        | cons b r =>
          simp only [List.cons_append, List.cons.injEq] at h
          exact ⟨(r, i), (strip_some p j t r i).2 h.2, by rw [h.1]⟩

abbrev Rt := Nat → Base → Option AV
def rowOf (R : Rt) (f : Nat) (b : Base) (path : List Hop) : Option (List Sh) := (R f b).bind fun x => x.row path
def cellOf (R : Rt) (f : Nat) (p : Pl) : Option Sh := (rowOf R f p.base p.path).bind fun r => r[p.j]?

/-- What stands behind a forest: where each owned thing lies, the box's blocks, what the slots hold, which frames may be written. -/
structure Gh where
  h : Nat → Base → List Hop → Nat → Nat × Nat × Nat
  bb : Nat → Nat → Nat
  tm : Nat → Nat → Value
  wr : Nat → Bool

def Gh.addr (G : Gh) (f : Nat) (b : Base) : List Hop → Nat × Nat
  | [] => match b with
    | .bx t => (G.bb f t, 0)
    | .sl _ => (0, 0)
  | (j, i) :: par => ((G.h f b par j).1, (G.h f b par j).2.1 + i * (G.h f b par j).2.2)

def inMem : Base → List Hop → Bool
  | .sl _, [] => false
  | _, _ => true

def flatV (v : Value) : List Value :=
  match v with
  | .agg cs => cs.toList
  | .tuple vs => vs.toList.flatMap fun x => x.cells.toList
  | v => [v]

def conc (w : World) (G : Gh) (f : Nat) (b : Base) (path : List Hop) (j : Nat) : Option Value :=
  if inMem b path then w.cell? ⟨(G.addr f b path).1, (G.addr f b path).2 + j, none⟩
  else match b with
    | .sl k => (flatV (G.tm f k))[j]?
    | .bx _ => none

/-- A block of at least n cells; one that may be written has no frozen cell. -/
def blockOk (w : World) (mu : Bool) (B n : Nat) : Prop :=
  ∃ arr e fz, w.heap[B]? = some (.cells arr e fz) ∧ n ≤ arr.size ∧ (mu = true → ∀ i, i < arr.size → ¬ (fz.1 ≤ i ∧ i < fz.2))

mutual
def RV (w : World) (G : Gh) (R : Rt) : Nat → AV → Value → Prop
  | f, .v x, u => u = x
  | f, .junk, u => True
  | 0, .up x, u => False
  | f + 1, .up x, u => RV w G R f x u
  | f, .fn g caps, u => ∃ us : Array Value, u = .func (.func g) #[] us ∧ RVs w G R f caps us.toList
  | f, .sl p es off len, u => ∀ n, cellOf R f p = some (.own es n) → off + len ≤ n →
      ∃ ao cap, u = .slice (some ⟨(G.h f p.base p.path p.j).1, ao, none⟩) len cap ∧ len ≤ cap ∧ (cap = 0 ∨ ao = (G.h f p.base p.path p.j).2.1 + off * es) ∧
        blockOk w (G.wr f) (G.h f p.base p.path p.j).1 (ao + cap * es)
  | f, .sa p es len cap, u => ∀ r, rowOf R f p.base p.path = some r → inMem p.base p.path = true → p.j + cap * es ≤ r.length → len ≤ cap →
      ∃ ad, u = .slice (some ad) len cap ∧ ad.spot = none ∧ (cap = 0 ∨ ad = ⟨(G.addr f p.base p.path).1, (G.addr f p.base p.path).2 + p.j, none⟩)
  | f, .ptr p, u => ∀ r, rowOf R f p.base p.path = some r → inMem p.base p.path = true → p.j < r.length →
      u = .pointer (some ⟨(G.addr f p.base p.path).1, (G.addr f p.base p.path).2 + p.j, none⟩)
  | _, _, _ => False
def RVs (w : World) (G : Gh) (R : Rt) : Nat → List AV → List Value → Prop
  | f, [], us => us = []
  | f, c :: cs, us => ∃ u r, us = u :: r ∧ RV w G R f c u ∧ RVs w G R f cs r
end

def CS (w : World) (G : Gh) (R : Rt) (f : Nat) (b : Base) (path : List Hop) (j : Nat) (s : Sh) (u : Value) : Prop :=
  match s with
  | .val x => u = x
  | .junk => True
  | .own es n => (G.h f b path j).2.2 = es ∧ 0 < es ∧ ∃ cap, u = .slice (some ⟨(G.h f b path j).1, (G.h f b path j).2.1, none⟩) n cap ∧ n ≤ cap ∧
      blockOk w (G.wr f) (G.h f b path j).1 ((G.h f b path j).2.1 + cap * es)
  | .obj => (G.h f b path j).2.1 = 0 ∧ u = .pointer (some ⟨(G.h f b path j).1, 0, none⟩) ∧ blockOk w (G.wr f) (G.h f b path j).1 0
  | .ref x => RV w G R f x u
  | .bad => False

/-- Who owns a block. -/
inductive Owner where
  | bx (f t : Nat)
  | cell (f : Nat) (b : Base) (path : List Hop) (j : Nat)
  deriving DecidableEq

def Owner.frame : Owner → Nat
  | .bx f _ => f
  | .cell f _ _ _ => f
def Owner.valid (R : Rt) : Owner → Prop
  | .bx f t => (R f (.bx t)).isSome
  | .cell f b path j => (∃ es n, cellOf R f ⟨b, path, j⟩ = some (.own es n)) ∨ cellOf R f ⟨b, path, j⟩ = some .obj
def Owner.blk (G : Gh) : Owner → Nat
  | .bx f t => G.bb f t
  | .cell f b path j => (G.h f b path j).1

structure Ok (w : World) (G : Gh) (R : Rt) : Prop where
  len : ∀ f b par j i es n r, cellOf R f ⟨b, par, j⟩ = some (.own es n) → rowOf R f b ((j, i) :: par) = some r → r.length = es
  cell : ∀ f b path r j s, rowOf R f b path = some r → r[j]? = some s → ∃ u, conc w G f b path j = some u ∧ CS w G R f b path j s u
  one : ∀ f b path r j s u, rowOf R f b path = some r → r[j]? = some s → conc w G f b path j = some u → u.oneCell' = true
  box : ∀ f t, (R f (.bx t)).isSome → blockOk w (G.wr f) (G.bb f t) 0
  inj : ∀ o o' : Owner, o.valid R → o'.valid R → G.wr o.frame = true → (o.blk G = o'.blk G) → o = o'

end Go.Proofs.Ythlehngbadianaa.Ai
/- Laws of the forest in memory: addresses are apart, and a leaf may be changed. -/
set_option linter.unusedVariables false
namespace Go.Proofs.Ythlehngbadianaa.Ai
open Go Go.RowKit

theorem rowOf_hop {R : Rt} {f : Nat} {b : Base} {j i : Nat} {par : List Hop} {r : List Sh} (h : rowOf R f b ((j, i) :: par) = some r) :
    (∃ es n, cellOf R f ⟨b, par, j⟩ = some (.own es n) ∧ i < n) ∨ (cellOf R f ⟨b, par, j⟩ = some .obj ∧ i = 0) := by
  simp only [rowOf, AV.row, AV.sub, Option.bind_eq_some_iff, Option.map_eq_some_iff] at h
  obtain ⟨x, hx, y, ⟨z, hz, c, hc, he⟩, _⟩ := h
  have hcell : cellOf R f ⟨b, par, j⟩ = some c.sh := by
    simp [cellOf, rowOf, AV.row, hx, hz, hc]
  rw [hcell]
  cases c <;> simp [AV.elem] at he
  · left; exact ⟨_, _, rfl, (List.getElem?_eq_some_iff.1 he).1⟩
  · right; exact ⟨rfl, he.1⟩

/-- Who owns the block that a node in memory lies in. -/
def ownerOf (f : Nat) (b : Base) : List Hop → Owner
  | [] => match b with
    | .bx t => .bx f t
    | .sl _ => .bx f 0
  | (j, _) :: par => .cell f b par j

theorem ownerOf_valid {R : Rt} {f : Nat} {b : Base} {path : List Hop} {r : List Sh} (h : rowOf R f b path = some r) (hm : inMem b path = true) : (ownerOf f b path).valid R := by
  cases path with
  | nil =>
    cases b with
    | sl k => simp [inMem] at hm
    | bx t =>
      simp only [ownerOf, Owner.valid]
      simp only [rowOf] at h
      cases hx : R f (.bx t) with
      | none => simp [hx] at h
      | some x => rfl
  | cons a par =>
    obtain ⟨j, i⟩ := a
    simp only [ownerOf, Owner.valid]
    rcases rowOf_hop h with ⟨es, n, h1, _⟩ | ⟨h1, _⟩
    · exact Or.inl ⟨es, n, h1⟩
    · exact Or.inr h1

theorem ownerOf_blk (G : Gh) {f : Nat} {b : Base} {path : List Hop} (hm : inMem b path = true) : (ownerOf f b path).blk G = (G.addr f b path).1 := by
  cases path with
  | nil =>
    cases b with
    | sl k => simp [inMem] at hm
    | bx t => rfl
  | cons a par => obtain ⟨j, i⟩ := a; rfl

theorem ownerOf_frame (f : Nat) (b : Base) (path : List Hop) : (ownerOf f b path).frame = f := by
  cases path with
  | nil => cases b <;> rfl
  | cons a par => obtain ⟨j, i⟩ := a; rfl

theorem cellOf_row {R : Rt} {f : Nat} {b : Base} {path : List Hop} {j : Nat} {s : Sh} (h : cellOf R f ⟨b, path, j⟩ = some s) : ∃ r, rowOf R f b path = some r ∧ r[j]? = some s := by
  simpa [cellOf, Option.bind_eq_some_iff] using h

theorem addr_inj {w : World} {G : Gh} {R : Rt} (ok : Ok w G R) {f f' : Nat} {b b' : Base} {path path' : List Hop} {r r' : List Sh} {j j' : Nat} (h : rowOf R f b path = some r) (h' : rowOf R f' b' path' = some r')
    (hm : inMem b path = true) (hm' : inMem b' path' = true) (hj : j < r.length) (hj' : j' < r'.length) (hw : G.wr f = true)
    (h1 : (G.addr f b path).1 = (G.addr f' b' path').1) (h2 : (G.addr f b path).2 + j = (G.addr f' b' path').2 + j') : f = f' ∧ b = b' ∧ path = path' ∧ j = j' := by
  have ho := ok.inj _ _ (ownerOf_valid h hm) (ownerOf_valid h' hm') (by rw [ownerOf_frame]; exact hw) (by rw [ownerOf_blk G hm, ownerOf_blk G hm']; exact h1)
  cases path with
  | nil =>
    cases b with
    | sl k => simp [inMem] at hm
    | bx t =>
      cases path' with
      | nil =>
        cases b' with
        | sl k => simp [inMem] at hm'
        | bx t' =>
          simp only [ownerOf, Owner.bx.injEq] at ho
          obtain ⟨rfl, rfl⟩ := ho
          simp only [Gh.addr] at h2
          exact ⟨rfl, rfl, rfl, by omega⟩
      | cons a par => obtain ⟨j0, i0⟩ := a; simp [ownerOf] at ho
  | cons a par =>
    obtain ⟨j0, i0⟩ := a
    cases path' with
    | nil =>
      cases b' with
      | sl k => simp [inMem] at hm'
      | bx t' => simp [ownerOf] at ho
    | cons a' par' =>
      obtain ⟨j0', i0'⟩ := a'
      simp only [ownerOf, Owner.cell.injEq] at ho
      obtain ⟨rfl, rfl, rfl, rfl⟩ := ho
      simp only [Gh.addr] at h2
      rcases rowOf_hop h with ⟨es, n, hc, hi⟩ | ⟨hc, hi⟩
      · have hl := ok.len _ _ _ _ _ _ _ _ hc h
        have hl' := ok.len _ _ _ _ _ _ _ _ hc h'
        obtain ⟨pr, hpr, hpj⟩ := cellOf_row hc
        obtain ⟨u, _, hcs⟩ := ok.cell _ _ _ _ _ _ hpr hpj
        simp only [CS] at hcs
        obtain ⟨hes, hpos, _⟩ := hcs
        rw [hes] at h2
        have hi0 : i0 = i0' := by
          rcases Nat.lt_trichotomy i0 i0' with hlt | heq | hgt
          · have : (i0 + 1) * es ≤ i0' * es := Nat.mul_le_mul_right _ hlt
            rw [Nat.add_mul] at this; omega
          · exact heq
          · have : (i0' + 1) * es ≤ i0 * es := Nat.mul_le_mul_right _ hgt
            rw [Nat.add_mul] at this; omega
        subst hi0
        exact ⟨rfl, rfl, rfl, by omega⟩
      · rcases rowOf_hop h' with ⟨es, n, hc', _⟩ | ⟨hc', hi'⟩
        · rw [hc] at hc'; simp at hc'
        · subst hi; subst hi'
          exact ⟨rfl, rfl, rfl, by omega⟩

/-- The forest says less. -/
structure Le (R' R : Rt) : Prop where
  own : ∀ f p es n, cellOf R' f p = some (.own es n) → cellOf R f p = some (.own es n)
  row : ∀ f b path r', inMem b path = true → rowOf R' f b path = some r' → ∃ r, rowOf R f b path = some r ∧ r.length = r'.length
def Wle (w w' : World) : Prop := ∀ mu B n, blockOk w mu B n → blockOk w' mu B n
theorem Wle.refl (w : World) : Wle w w := fun _ _ _ h => h
theorem Wle.trans {a b c : World} (h : Wle a b) (k : Wle b c) : Wle a c := fun _ _ _ x => k _ _ _ (h _ _ _ x)

mutual
theorem RV.le {w w' : World} {G : Gh} {R R' : Rt} (hw : Wle w w') (hR : Le R' R) : ∀ (f : Nat) (x : AV) (u : Value), RV w G R f x u → RV w' G R' f x u
  | f, .v x, u, h => by simpa [RV] using h
  | f, .junk, u, h => by simp [RV]
  | 0, .up x, u, h => by simp [RV] at h
  | f + 1, .up x, u, h => by
    simp only [RV] at h ⊢
    exact RV.le hw hR f x u h
  | f, .fn g caps, u, h => by
    simp only [RV] at h ⊢
    obtain ⟨us, h1, h2⟩ := h
    exact ⟨us, h1, RVs.le hw hR f caps us.toList h2⟩
  | f, .sl p es off len, u, h => by
    simp only [RV] at h ⊢
    intro n hn hle
    obtain ⟨ad, cap, h1, h2, h4, h5⟩ := h n (hR.own _ _ _ _ hn) hle
    exact ⟨ad, cap, h1, h2, h4, hw _ _ _ h5⟩
  | f, .sa p es len cap, u, h => by
    simp only [RV] at h ⊢
    intro r hr hm hle
    obtain ⟨r0, hr0, hl⟩ := hR.row _ _ _ _ hm hr
    exact h r0 hr0 hm (by omega)
  | f, .ptr p, u, h => by
    simp only [RV] at h ⊢
    intro r hr hm hle
    obtain ⟨r0, hr0, hl⟩ := hR.row _ _ _ _ hm hr
    exact h r0 hr0 hm (by omega)
  | f, .agg _, u, h => by simp [RV] at h
  | f, .tup _ _, u, h => by simp [RV] at h
  | f, .own _ _, u, h => by simp [RV] at h
  | f, .obj _, u, h => by simp [RV] at h
  | f, .lapp _ _ _ _ _, u, h => by simp [RV] at h
theorem RVs.le {w w' : World} {G : Gh} {R R' : Rt} (hw : Wle w w') (hR : Le R' R) : ∀ (f : Nat) (xs : List AV) (us : List Value), RVs w G R f xs us → RVs w' G R' f xs us
  | f, [], us, h => by simpa [RVs] using h
  | f, c :: cs, us, h => by
    simp only [RVs] at h ⊢
    obtain ⟨u, r, h1, h2, h3⟩ := h
    exact ⟨u, r, h1, RV.le hw hR f c u h2, RVs.le hw hR f cs r h3⟩
end

theorem CS.le {w w' : World} {G : Gh} {R R' : Rt} (hw : Wle w w') (hR : Le R' R) {f : Nat} {b : Base} {path : List Hop} {j : Nat} {s : Sh} {u : Value} (h : CS w G R f b path j s u) : CS w' G R' f b path j s u := by
  cases s <;> simp only [CS] at h ⊢
  · exact h
  · obtain ⟨h1, h2, cap, h3, h4, h5⟩ := h
    exact ⟨h1, h2, cap, h3, h4, hw _ _ _ h5⟩
  · exact ⟨h.1, h.2.1, hw _ _ _ h.2.2⟩
  · exact RV.le hw hR _ _ _ h

/-! A change of one cell. -/
def setR (R : Rt) (f : Nat) (p : Pl) (c : AV) : Rt := fun f' b' => if f' = f ∧ b' = p.base then (R f' b').map (fun x => x.setC p.path p.j c) else R f' b'

theorem rowOf_setR_here {R : Rt} {f : Nat} {p : Pl} {r : List Sh} (h : rowOf R f p.base p.path = some r) (c : AV) (hc : c.one = true) :
    rowOf (setR R f p c) f p.base p.path = some (r.set p.j c.sh) := by
  simp only [rowOf, Option.bind_eq_some_iff, AV.row, Option.map_eq_some_iff] at h
  obtain ⟨x, hx, z, hz, rfl⟩ := h
  simp only [rowOf, setR, and_self, if_true, hx, Option.map_some, Option.bind_some]
  rw [AV.row_setC_here hz _ _ hc]

theorem rowOf_setR_through {R : Rt} {f : Nat} {p : Pl} {r : List Sh} (h : rowOf R f p.base p.path = some r) (hj : p.j < r.length) (c : AV) (hc : c.one = true) (q : List Hop) (i : Nat) :
    rowOf (setR R f p c) f p.base (q ++ (p.j, i) :: p.path) = c.row (q ++ [(0, i)]) := by
  simp only [rowOf, Option.bind_eq_some_iff, AV.row, Option.map_eq_some_iff] at h
  obtain ⟨x, hx, z, hz, rfl⟩ := h
  simp only [rowOf, setR, and_self, if_true, hx, Option.map_some, Option.bind_some, AV.row]
  rw [AV.sub_setC_below hz _ _ hc (by simpa using hj)]

theorem rowOf_setR_other {R : Rt} {f : Nat} {p : Pl} {r : List Sh} (h : rowOf R f p.base p.path = some r) (hj : p.j < r.length) (c : AV) (hc : c.one = true) (f' : Nat) (b' : Base) (path' : List Hop)
    (hne : ¬ (f' = f ∧ b' = p.base ∧ path' = p.path)) (hth : ¬ (f' = f ∧ b' = p.base ∧ ∃ q i, path' = q ++ (p.j, i) :: p.path)) :
    rowOf (setR R f p c) f' b' path' = rowOf R f' b' path' := by
  simp only [rowOf, Option.bind_eq_some_iff, AV.row, Option.map_eq_some_iff] at h
  obtain ⟨x, hx, z, hz, rfl⟩ := h
  simp only [rowOf, setR]
  by_cases hfb : f' = f ∧ b' = p.base
  · obtain ⟨rfl, rfl⟩ := hfb
    simp only [and_self, if_true, hx, Option.map_some, Option.bind_some]
    exact AV.row_setC_other hz _ _ hc (by simpa using hj) _ (fun e => hne ⟨rfl, rfl, e⟩) (fun q i e => hth ⟨rfl, rfl, q, i, e⟩)
  · simp only [hfb, if_false]

def Sh.leaf : Sh → Bool
  | .val _ => true
  | .junk => true
  | .ref _ => true
  | _ => false

theorem AV.leaf_row {c : AV} (hc : c.one = true) (hl : c.sh.leaf = true) (q : List Hop) (i : Nat) : c.row (q ++ [(0, i)]) = none := by
  simp only [AV.row, AV.sub_append]
  have : c.sub [(0, i)] = none := by
    simp only [AV.sub, Option.bind_some, AV.cells_one hc]
    cases c <;> simp_all [AV.sh, Sh.leaf, AV.elem]
  simp [this]

/-- The rows of a forest in which one cell was made a leaf. -/
theorem rowOf_setR_leaf {R : Rt} {f : Nat} {p : Pl} {r0 : List Sh} (h : rowOf R f p.base p.path = some r0) (hj : p.j < r0.length) {c : AV} (hc : c.one = true) (hl : c.sh.leaf = true)
    {f' : Nat} {b' : Base} {path' : List Hop} {r' : List Sh} (hr : rowOf (setR R f p c) f' b' path' = some r') :
    (f' = f ∧ b' = p.base ∧ path' = p.path ∧ r' = r0.set p.j c.sh) ∨ (¬ (f' = f ∧ b' = p.base ∧ path' = p.path) ∧ rowOf R f' b' path' = some r') := by
  by_cases h1 : f' = f ∧ b' = p.base ∧ path' = p.path
  · obtain ⟨rfl, rfl, rfl⟩ := h1
    rw [rowOf_setR_here h c hc] at hr
    exact Or.inl ⟨rfl, rfl, rfl, (Option.some.inj hr).symm⟩
  · by_cases h2 : f' = f ∧ b' = p.base ∧ ∃ q i, path' = q ++ (p.j, i) :: p.path
    · obtain ⟨rfl, rfl, q, i, rfl⟩ := h2
      rw [rowOf_setR_through h hj c hc, AV.leaf_row hc hl] at hr
      simp at hr
    · rw [rowOf_setR_other h hj c hc _ _ _ h1 h2] at hr
      exact Or.inr ⟨h1, hr⟩

theorem cellOf_setR_leaf {R : Rt} {f : Nat} {p : Pl} {r0 : List Sh} (h : rowOf R f p.base p.path = some r0) (hj : p.j < r0.length) {c : AV} (hc : c.one = true) (hl : c.sh.leaf = true)
    {f' : Nat} {q : Pl} {s : Sh} (hs : cellOf (setR R f p c) f' q = some s) : (f' = f ∧ q = p ∧ s = c.sh) ∨ (¬ (f' = f ∧ q = p) ∧ cellOf R f' q = some s) := by
  obtain ⟨b', path', j'⟩ := q
  obtain ⟨r', hr', hs'⟩ := cellOf_row hs
  obtain ⟨b, path, j⟩ := p
  rcases rowOf_setR_leaf h hj hc hl hr' with ⟨rfl, rfl, rfl, rfl⟩ | ⟨hne, hr⟩
  · rw [List.getElem?_set] at hs'
    by_cases hjj : j = j'
    · subst hjj
      left
      refine ⟨rfl, rfl, ?_⟩
      have hj2 : j < r0.length := hj
      simp [hj2] at hs'
      exact hs'.symm
    · simp only [hjj, if_false] at hs'
      right
      refine ⟨fun e => hjj ?_, by simp [cellOf, h, hs']⟩
      have := e.2
      simp only [Pl.mk.injEq, true_and] at this
      exact this.symm
  · right
    refine ⟨fun e => hne ?_, by simp [cellOf, hr, hs']⟩
    obtain ⟨e1, e2⟩ := e
    simp only [Pl.mk.injEq] at e2
    exact ⟨e1, e2.1, e2.2.1⟩

theorem Le.leaf {R : Rt} {f : Nat} {p : Pl} {r0 : List Sh} (h : rowOf R f p.base p.path = some r0) (hj : p.j < r0.length) {c : AV} (hc : c.one = true) (hl : c.sh.leaf = true) : Le (setR R f p c) R := by
  constructor
  · intro f' q es n hq
    rcases cellOf_setR_leaf h hj hc hl hq with ⟨_, _, hs⟩ | ⟨_, hs⟩
    · rw [← hs] at hl; simp [Sh.leaf] at hl
    · exact hs
  · intro f' b' path' r' hm hr
    rcases rowOf_setR_leaf h hj hc hl hr with ⟨rfl, rfl, rfl, rfl⟩ | ⟨_, hs⟩
    · exact ⟨r0, h, by simp⟩
    · exact ⟨r', hs, rfl⟩

theorem Owner.valid_leaf {R : Rt} {f : Nat} {p : Pl} {r0 : List Sh} (h : rowOf R f p.base p.path = some r0) (hj : p.j < r0.length) {c : AV} (hc : c.one = true) (hl : c.sh.leaf = true) {o : Owner}
    (hv : o.valid (setR R f p c)) : o.valid R := by
  cases o with
  | bx f' t =>
    simp only [Owner.valid, setR] at hv ⊢
    split at hv
    · cases hx : R f' (.bx t) <;> simp_all
    · exact hv
  | cell f' b' path' j' =>
    simp only [Owner.valid] at hv ⊢
    rcases hv with ⟨es, n, hv⟩ | hv
    · rcases cellOf_setR_leaf h hj hc hl hv with ⟨_, _, hs⟩ | ⟨_, hs⟩
      · rw [← hs] at hl; simp [Sh.leaf] at hl
      · exact Or.inl ⟨es, n, hs⟩
    · rcases cellOf_setR_leaf h hj hc hl hv with ⟨_, _, hs⟩ | ⟨_, hs⟩
      · rw [← hs] at hl; simp [Sh.leaf] at hl
      · exact Or.inr hs

/-- One cell is made a leaf; the world may turn at that cell alone. -/
theorem Ok.leaf {w w' : World} {G : Gh} {R : Rt} (ok : Ok w G R) {f : Nat} {p : Pl} {r0 : List Sh} (h : rowOf R f p.base p.path = some r0) (hj : p.j < r0.length) {c : AV} (hc : c.one = true) (hl : c.sh.leaf = true)
    (hw : Wle w w')
    (hcell : ∀ f' b' path' j' r', rowOf R f' b' path' = some r' → j' < r'.length → ¬ (f' = f ∧ b' = p.base ∧ path' = p.path ∧ j' = p.j) → conc w' G f' b' path' j' = conc w G f' b' path' j')
    {u : Value} (hu : conc w' G f p.base p.path p.j = some u) (hone : u.oneCell' = true) (hcs : CS w' G (setR R f p c) f p.base p.path p.j c.sh u) : Ok w' G (setR R f p c) := by
  have hle := Le.leaf h hj hc hl
  constructor
  · intro f' b' par j i es n r' hc' hr'
    have hp := hle.own _ _ _ _ hc'
    rcases rowOf_setR_leaf h hj hc hl hr' with ⟨rfl, rfl, e, rfl⟩ | ⟨_, hr⟩
    · rw [List.length_set]
      exact ok.len _ _ _ _ _ _ _ _ hp (by rw [e]; exact h)
    · exact ok.len _ _ _ _ _ _ _ _ hp hr
  · intro f' b' path' r' j' s hr' hs
    rcases rowOf_setR_leaf h hj hc hl hr' with ⟨rfl, rfl, rfl, rfl⟩ | ⟨hne, hr⟩
    · rw [List.getElem?_set] at hs
      by_cases hjj : p.j = j'
      · subst hjj
        simp only [hj, if_true] at hs
        cases Option.some.inj hs
        exact ⟨u, hu, hcs⟩
      · simp only [hjj, if_false] at hs
        have hj' : j' < r0.length := (List.getElem?_eq_some_iff.1 hs).1
        obtain ⟨u', hu', hcs'⟩ := ok.cell _ _ _ _ _ _ h hs
        exact ⟨u', by rw [hcell _ _ _ _ _ h hj' (fun e => hjj e.2.2.2.symm)]; exact hu', hcs'.le hw hle⟩
    · have hj' : j' < r'.length := (List.getElem?_eq_some_iff.1 hs).1
      obtain ⟨u', hu', hcs'⟩ := ok.cell _ _ _ _ _ _ hr hs
      exact ⟨u', by rw [hcell _ _ _ _ _ hr hj' (fun e => hne ⟨e.1, e.2.1, e.2.2.1⟩)]; exact hu', hcs'.le hw hle⟩
  · intro f' b' path' r' j' s u' hr' hs hu'
    rcases rowOf_setR_leaf h hj hc hl hr' with ⟨rfl, rfl, rfl, rfl⟩ | ⟨hne, hr⟩
    · by_cases hjj : p.j = j'
      · subst hjj
        rw [hu] at hu'
        rw [← Option.some.inj hu']
        exact hone
      · rw [List.getElem?_set_ne hjj] at hs
        have hj' : j' < r0.length := (List.getElem?_eq_some_iff.1 hs).1
        rw [hcell _ _ _ _ _ h hj' (fun e => hjj e.2.2.2.symm)] at hu'
        exact ok.one _ _ _ _ _ _ _ h hs hu'
    · have hj' : j' < r'.length := (List.getElem?_eq_some_iff.1 hs).1
      rw [hcell _ _ _ _ _ hr hj' (fun e => hne ⟨e.1, e.2.1, e.2.2.1⟩)] at hu'
      exact ok.one _ _ _ _ _ _ _ hr hs hu'
  · intro f' t ht
    exact hw _ _ _ (ok.box f' t (by
      simp only [setR] at ht
      split at ht
      · cases hx : R f' (.bx t) <;> simp_all
      · exact ht))
  · intro o o' ho ho' hm hb
    exact ok.inj o o' (Owner.valid_leaf h hj hc hl ho) (Owner.valid_leaf h hj hc hl ho') hm hb

end Go.Proofs.Ythlehngbadianaa.Ai
/- Laws of the forest in memory: a cell gets what it owns; slots; new blocks; other worlds. -/
set_option linter.unusedVariables false
namespace Go.Proofs.Ythlehngbadianaa.Ai
open Go Go.RowKit

/-- References that do not lead to what T names: T: a cell that owns, N: a node. -/
def AV.off (T : Nat → Pl → Prop) (N : Nat → Base → List Hop → Prop) : Nat → AV → Prop
  | f, .sl p _ _ _ => ¬ T f p
  | f, .sa p _ _ _ => ¬ N f p.base p.path
  | f, .ptr p => ¬ N f p.base p.path
  | 0, .up _ => True
  | f + 1, .up x => AV.off T N f x
  | f, .fn _ caps => ∀ c ∈ caps, AV.off T N f c
  | _, _ => True
termination_by f x => SizeOf.sizeOf x

mutual
theorem RV.gen {w w' : World} {G G' : Gh} {R R' : Rt} (T : Nat → Pl → Prop) (N : Nat → Base → List Hop → Prop) (hw : Wle w w') (hwr : G'.wr = G.wr)
    (hown : ∀ f p es n, ¬ T f p → cellOf R' f p = some (.own es n) → cellOf R f p = some (.own es n) ∧ G'.h f p.base p.path p.j = G.h f p.base p.path p.j)
    (hrow : ∀ f b path r', ¬ N f b path → inMem b path = true → rowOf R' f b path = some r' → (∃ r, rowOf R f b path = some r ∧ r.length = r'.length) ∧ G'.addr f b path = G.addr f b path) :
    ∀ (f : Nat) (x : AV) (u : Value), x.off T N f → RV w G R f x u → RV w' G' R' f x u
  | f, .v x, u, _, h => by simpa [RV] using h
  | f, .junk, u, _, h => by simp [RV]
  | 0, .up x, u, _, h => by simp [RV] at h
  | f + 1, .up x, u, ho, h => by
    simp only [RV] at h ⊢
    simp only [AV.off] at ho
    exact RV.gen T N hw hwr hown hrow f x u ho h
  | f, .fn g caps, u, ho, h => by
    simp only [RV] at h ⊢
    simp only [AV.off] at ho
    obtain ⟨us, h1, h2⟩ := h
    exact ⟨us, h1, RVs.gen T N hw hwr hown hrow f caps us.toList ho h2⟩
  | f, .sl p es off len, u, ho, h => by
    simp only [RV] at h ⊢
    simp only [AV.off] at ho
    intro n hn hle
    obtain ⟨hn', hh⟩ := hown _ _ _ _ ho hn
    obtain ⟨ad, cap, h1, h2, h4, h5⟩ := h n hn' hle
    rw [hh, hwr]
    exact ⟨ad, cap, h1, h2, h4, hw _ _ _ h5⟩
  | f, .sa p es len cap, u, ho, h => by
    simp only [RV] at h ⊢
    simp only [AV.off] at ho
    intro r hr hm hle
    obtain ⟨⟨r0, hr0, hl⟩, ha⟩ := hrow _ _ _ _ ho hm hr
    rw [ha]
    exact h r0 hr0 hm (by omega)
  | f, .ptr p, u, ho, h => by
    simp only [RV] at h ⊢
    simp only [AV.off] at ho
    intro r hr hm hle
    obtain ⟨⟨r0, hr0, hl⟩, ha⟩ := hrow _ _ _ _ ho hm hr
    rw [ha]
    exact h r0 hr0 hm (by omega)
  | f, .agg _, u, _, h => by simp [RV] at h
  | f, .tup _ _, u, _, h => by simp [RV] at h
  | f, .own _ _, u, _, h => by simp [RV] at h
  | f, .obj _, u, _, h => by simp [RV] at h
  | f, .lapp _ _ _ _ _, u, _, h => by simp [RV] at h
theorem RVs.gen {w w' : World} {G G' : Gh} {R R' : Rt} (T : Nat → Pl → Prop) (N : Nat → Base → List Hop → Prop) (hw : Wle w w') (hwr : G'.wr = G.wr)
    (hown : ∀ f p es n, ¬ T f p → cellOf R' f p = some (.own es n) → cellOf R f p = some (.own es n) ∧ G'.h f p.base p.path p.j = G.h f p.base p.path p.j)
    (hrow : ∀ f b path r', ¬ N f b path → inMem b path = true → rowOf R' f b path = some r' → (∃ r, rowOf R f b path = some r ∧ r.length = r'.length) ∧ G'.addr f b path = G.addr f b path) :
    ∀ (f : Nat) (xs : List AV) (us : List Value), (∀ c ∈ xs, c.off T N f) → RVs w G R f xs us → RVs w' G' R' f xs us
  | f, [], us, _, h => by simpa [RVs] using h
  | f, c :: cs, us, ho, h => by
    simp only [RVs] at h ⊢
    obtain ⟨u, r, h1, h2, h3⟩ := h
    exact ⟨u, r, h1, RV.gen T N hw hwr hown hrow f c u (ho c (by simp)) h2, RVs.gen T N hw hwr hown hrow f cs r (fun x hx => ho x (by simp [hx])) h3⟩
end

theorem addr_cell {G G' : Gh} {f : Nat} {b : Base} {path : List Hop} (hbb : G'.bb = G.bb) (h : ∀ j i par, path = (j, i) :: par → G'.h f b par j = G.h f b par j) : G'.addr f b path = G.addr f b path := by
  cases path with
  | nil => cases b <;> simp [Gh.addr, hbb]
  | cons a par =>
    obtain ⟨j, i⟩ := a
    simp only [Gh.addr, h j i par rfl]

/-! Another world: what was there is still there. -/
theorem Ok.world {w w' : World} {G : Gh} {R : Rt} (ok : Ok w G R) (hw : Wle w w') (hc : ∀ a v, w.cell? a = some v → w'.cell? a = some v) : Ok w' G R := by
  have hle : Le R R := ⟨fun _ _ _ _ h => h, fun _ _ _ r _ h => ⟨r, h, rfl⟩⟩
  have hcc : ∀ f b path j u, conc w G f b path j = some u → conc w' G f b path j = some u := by
    intro f b path j u hu
    simp only [conc] at hu ⊢
    split at hu
    · rename_i hm; rw [if_pos hm]; exact hc _ _ hu
    · rename_i hm; rw [if_neg hm]; exact hu
  refine ⟨ok.len, ?_, ?_, fun f t ht => hw _ _ _ (ok.box f t ht), ok.inj⟩
  rotate_left
  · intro f b path r j s u hr hs hu
    obtain ⟨u0, hu0, _⟩ := ok.cell f b path r j s hr hs
    have h2 := hcc _ _ _ _ _ hu0
    rw [hu] at h2
    rw [Option.some.inj h2]
    exact ok.one _ _ _ _ _ _ _ hr hs hu0
  intro f b path r j s hr hs
  obtain ⟨u, hu, hcs⟩ := ok.cell f b path r j s hr hs
  exact ⟨u, hcc _ _ _ _ _ hu, hcs.le hw hle⟩

theorem blockOk_lt {w : World} {mu : Bool} {B n : Nat} (h : blockOk w mu B n) : B < w.heap.size := by
  obtain ⟨arr, e, fz, h1, _⟩ := h
  exact (Array.getElem?_eq_some_iff.1 h1).1

theorem Wle.below {w w' : World} (h : Below w.heap.size w w') : Wle w w' := by
  intro mu B n hb
  have hlt := blockOk_lt hb
  obtain ⟨arr, e, fz, h1, h2, h3⟩ := hb
  exact ⟨arr, e, fz, (h.block B hlt).trans h1, h2, h3⟩

theorem Ok.below {w w' : World} {G : Gh} {R : Rt} (ok : Ok w G R) (h : Below w.heap.size w w') : Ok w' G R :=
  ok.world (Wle.below h) fun a v hv => (h.cell (World.block_lt_of_cell? w a hv)).trans hv

theorem Wle.setCell (w : World) (a : Addr) (u : Value) : Wle w (w.setCell a u) := by
  intro mu B n hb
  obtain ⟨arr, e, fz, h1, h2, h3⟩ := hb
  by_cases hB : B = a.block
  · subst hB
    refine ⟨if a.spot.isSome then arr else arr.setIfInBounds a.off u, e, fz, ?_, ?_, ?_⟩
    · simp only [World.setCell, Array.getElem?_modify, if_true, h1, Option.map_some]
    · split <;> simp [h2]
    · intro hmu i hi
      exact h3 hmu i (by split at hi <;> simpa using hi)
  · exact ⟨arr, e, fz, by rw [Below.heap_setCell _ _ _ _ hB]; exact h1, h2, h3⟩

theorem cell?_setCell_same {w : World} {B o : Nat} {v u : Value} (h : w.cell? ⟨B, o, none⟩ = some v) : (w.setCell ⟨B, o, none⟩ u).cell? ⟨B, o, none⟩ = some u := by
  simp only [World.cell?, World.setCell, Array.getElem?_modify, if_true] at h ⊢
  cases hb : w.heap[B]? with
  | none => simp [hb] at h
  | some ob =>
    cases ob <;> simp [hb] at h ⊢
    rename_i c e fz
    rw [Array.getElem?_setIfInBounds]
    simp [(Array.getElem?_eq_some_iff.1 h).1]

theorem cell?_setCell_other {w : World} {B o B' o' : Nat} {u : Value} (h : ¬ (B' = B ∧ o' = o)) : (w.setCell ⟨B, o, none⟩ u).cell? ⟨B', o', none⟩ = w.cell? ⟨B', o', none⟩ := by
  simp only [World.cell?, World.setCell, Array.getElem?_modify]
  by_cases hB : B = B'
  · subst hB
    simp only [if_true]
    cases hb : w.heap[B]? with
    | none => simp
    | some ob =>
      cases ob <;> simp
      rename_i c e fz
      rw [Array.getElem?_setIfInBounds]
      have : o ≠ o' := fun e => h ⟨rfl, e.symm⟩
      simp [this]
  · simp [hB]

/-- A cell in memory is written. -/
theorem Ok.write {w : World} {G : Gh} {R : Rt} (ok : Ok w G R) {f : Nat} {p : Pl} {r0 : List Sh} (h : rowOf R f p.base p.path = some r0) (hj : p.j < r0.length) (hm : inMem p.base p.path = true) (hf : G.wr f = true)
    {c : AV} (hc : c.one = true) (hl : c.sh.leaf = true) (u : Value) (hone : u.oneCell' = true)
    (hcs : CS (w.setCell ⟨(G.addr f p.base p.path).1, (G.addr f p.base p.path).2 + p.j, none⟩ u) G (setR R f p c) f p.base p.path p.j c.sh u) :
    Ok (w.setCell ⟨(G.addr f p.base p.path).1, (G.addr f p.base p.path).2 + p.j, none⟩ u) G (setR R f p c) := by
  obtain ⟨s, hs⟩ : ∃ s, r0[p.j]? = some s := ⟨r0[p.j], List.getElem?_eq_getElem hj⟩
  obtain ⟨v, hv, _⟩ := ok.cell _ _ _ _ _ _ h hs
  simp only [conc, hm, if_true] at hv
  refine ok.leaf h hj hc hl (Wle.setCell w _ u) ?_ (u := u) ?_ hone hcs
  · intro f' b' path' j' r' hr' hj' hne
    simp only [conc]
    split
    · rename_i hm'
      refine cell?_setCell_other (fun e => hne ?_)
      have := addr_inj ok h hr' hm hm' hj hj' hf e.1.symm e.2.symm
      exact ⟨this.1.symm, this.2.1.symm, this.2.2.1.symm, this.2.2.2.symm⟩
    · rfl
  · simp only [conc, hm, if_true]
    exact cell?_setCell_same hv

/-- A cell is forgotten, or known to hold a plain value, or a reference. -/
theorem Ok.know {w : World} {G : Gh} {R : Rt} (ok : Ok w G R) {f : Nat} {p : Pl} {r0 : List Sh} (h : rowOf R f p.base p.path = some r0) (hj : p.j < r0.length)
    {c : AV} (hc : c.one = true) (hl : c.sh.leaf = true) (hcs : ∀ u, conc w G f p.base p.path p.j = some u → CS w G (setR R f p c) f p.base p.path p.j c.sh u) : Ok w G (setR R f p c) := by
  obtain ⟨s, hs⟩ : ∃ s, r0[p.j]? = some s := ⟨r0[p.j], List.getElem?_eq_getElem hj⟩
  obtain ⟨v, hv, _⟩ := ok.cell _ _ _ _ _ _ h hs
  exact ok.leaf h hj hc hl (Wle.refl w) (fun _ _ _ _ _ _ _ _ => rfl) hv (ok.one _ _ _ _ _ _ _ h hs hv) (hcs v hv)

end Go.Proofs.Ythlehngbadianaa.Ai
/- A cell gets something to own: what another cell owned, or what is new. -/
set_option linter.unusedVariables false
namespace Go.Proofs.Ythlehngbadianaa.Ai
open Go Go.RowKit

theorem rowOf_setR_cases {R : Rt} {f : Nat} {p : Pl} {r0 : List Sh} (h : rowOf R f p.base p.path = some r0) (hj : p.j < r0.length) {c : AV} (hc : c.one = true)
    {f' : Nat} {b' : Base} {path' : List Hop} {r' : List Sh} (hr : rowOf (setR R f p c) f' b' path' = some r') :
    (f' = f ∧ b' = p.base ∧ path' = p.path ∧ r' = r0.set p.j c.sh) ∨ (∃ q i, f' = f ∧ b' = p.base ∧ path' = q ++ (p.j, i) :: p.path ∧ c.row (q ++ [(0, i)]) = some r') ∨
    (¬ (f' = f ∧ b' = p.base ∧ path' = p.path) ∧ ¬ (f' = f ∧ b' = p.base ∧ ∃ q i, path' = q ++ (p.j, i) :: p.path) ∧ rowOf R f' b' path' = some r') := by
  by_cases h1 : f' = f ∧ b' = p.base ∧ path' = p.path
  · obtain ⟨rfl, rfl, rfl⟩ := h1
    rw [rowOf_setR_here h c hc] at hr
    exact Or.inl ⟨rfl, rfl, rfl, (Option.some.inj hr).symm⟩
  · by_cases h2 : f' = f ∧ b' = p.base ∧ ∃ q i, path' = q ++ (p.j, i) :: p.path
    · obtain ⟨rfl, rfl, q, i, rfl⟩ := h2
      rw [rowOf_setR_through h hj c hc] at hr
      exact Or.inr (Or.inl ⟨q, i, rfl, rfl, rfl, hr⟩)
    · rw [rowOf_setR_other h hj c hc _ _ _ h1 h2] at hr
      exact Or.inr (Or.inr ⟨h1, h2, hr⟩)

theorem path_ne_through (path q : List Hop) (j i : Nat) : path ≠ q ++ (j, i) :: path := by
  intro h
  have := congrArg List.length h
  simp at this
  omega

/-- The ghosts behind the move. -/
def Gh.moved (G : Gh) (f2 : Nat) (p2 : Pl) (hd : Nat × Nat × Nat) (f1 : Nat) (b1 : Base) (m : Nat → Option (List Hop)) : Gh :=
  { G with h := fun f b path j =>
      if f = f2 ∧ b = p2.base then
        if path = p2.path ∧ j = p2.j then hd
        else match strip p2.path p2.j path with
          | some (q, i) => match m i with
            | some k => G.h f1 b1 (q ++ k) j
            | none => G.h f b path j
          | none => G.h f b path j
      else G.h f b path j }

section
variable {G : Gh} {f2 : Nat} {p2 : Pl} {hd : Nat × Nat × Nat} {f1 : Nat} {b1 : Base} {m : Nat → Option (List Hop)}
theorem Gh.moved_here : (G.moved f2 p2 hd f1 b1 m).h f2 p2.base p2.path p2.j = hd := by simp [Gh.moved]
theorem Gh.moved_through (q : List Hop) (i : Nat) (k : List Hop) (j : Nat) (hm : m i = some k) : (G.moved f2 p2 hd f1 b1 m).h f2 p2.base (q ++ (p2.j, i) :: p2.path) j = G.h f1 b1 (q ++ k) j := by
  have h1 : strip p2.path p2.j (q ++ (p2.j, i) :: p2.path) = some (q, i) := (strip_some _ _ _ _ _).2 rfl
  have h2 : ¬ (q ++ (p2.j, i) :: p2.path = p2.path ∧ j = p2.j) := fun e => path_ne_through _ _ _ _ e.1.symm
  simp only [Gh.moved, and_self, if_true, h2, if_false, h1, hm]
theorem Gh.moved_other (f : Nat) (b : Base) (path : List Hop) (j : Nat) (h1 : ¬ (f = f2 ∧ b = p2.base ∧ path = p2.path ∧ j = p2.j)) (h2 : ¬ (f = f2 ∧ b = p2.base ∧ ∃ q i, path = q ++ (p2.j, i) :: p2.path)) :
    (G.moved f2 p2 hd f1 b1 m).h f b path j = G.h f b path j := by
  simp only [Gh.moved]
  split
  · rename_i hfb
    rw [if_neg (fun e => h1 ⟨hfb.1, hfb.2, e.1, e.2⟩)]
    split
    · rename_i q i hs
      exact absurd ⟨hfb.1, hfb.2, q, i, (strip_some _ _ _ _ _).1 hs⟩ h2
    · rfl
  · rfl
theorem Gh.moved_addr (f : Nat) (b : Base) (path : List Hop) (h2 : ¬ (f = f2 ∧ b = p2.base ∧ ∃ q i, path = q ++ (p2.j, i) :: p2.path)) :
    (G.moved f2 p2 hd f1 b1 m).addr f b path = G.addr f b path := by
  refine addr_cell rfl ?_
  intro j i par e
  subst e
  refine Gh.moved_other _ _ _ _ (fun e => h2 ⟨e.1, e.2.1, [], i, by simp [e.2.2.1, e.2.2.2]⟩) (fun e => h2 ?_)
  obtain ⟨e1, e2, q, i', e3⟩ := e
  exact ⟨e1, e2, (j, i) :: q, i', by simp [e3]⟩
theorem Gh.moved_addr_through (q : List Hop) (i : Nat) (k : List Hop) (hm : m i = some k) (hq : q ≠ []) : (G.moved f2 p2 hd f1 b1 m).addr f2 p2.base (q ++ (p2.j, i) :: p2.path) = G.addr f1 b1 (q ++ k) := by
  cases q with
  | nil => exact absurd rfl hq
  | cons a q =>
    obtain ⟨j0, i0⟩ := a
    simp only [List.cons_append, Gh.addr, Gh.moved_through q i k j0 hm]
theorem Gh.moved_addr_first (i : Nat) : (G.moved f2 p2 hd f1 b1 m).addr f2 p2.base ((p2.j, i) :: p2.path) = (hd.1, hd.2.1 + i * hd.2.2) := by
  simp only [Gh.addr, Gh.moved_here]
theorem Gh.moved_tm (f k : Nat) : (G.moved f2 p2 hd f1 b1 m).tm f k = G.tm f k := rfl
end

theorem inMem_cons (b : Base) (a : Hop) (t : List Hop) : inMem b (a :: t) = true := by cases b <;> rfl
theorem inMem_through (b : Base) (q : List Hop) (a : Hop) (t : List Hop) : inMem b (q ++ a :: t) = true := by cases q <;> exact inMem_cons ..

/-- What a move leads through. -/
def TT (f2 : Nat) (p2 : Pl) : Nat → Pl → Prop := fun f p => f = f2 ∧ p.base = p2.base ∧ ((p.path = p2.path ∧ p.j = p2.j) ∨ ∃ q i, p.path = q ++ (p2.j, i) :: p2.path)
def NN (f2 : Nat) (p2 : Pl) : Nat → Base → List Hop → Prop := fun f b path => f = f2 ∧ b = p2.base ∧ ∃ q i, path = q ++ (p2.j, i) :: p2.path

/-- What is asked for a move of c into the cell p2 of the frame f2 (adopting what the elements m of the cell p1 of the frame f1 own). -/
structure Moves (w : World) (G : Gh) (R R1 : Rt) (f2 : Nat) (p2 : Pl) (c : AV) (hd : Nat × Nat × Nat) (f1 : Nat) (b1 : Base) (m : Nat → Option (List Hop)) : Prop where
  sub : ∀ o : Owner, o.valid R1 → o.valid R
  minj : ∀ i i' k k' q q', m i = some k → m i' = some k' → q ++ k = q' ++ k' → q = q' ∧ i = i'
  smem : ∀ i k, m i = some k → inMem b1 k = true
  nodes : ∀ q i r, c.row (q ++ [(0, i)]) = some r → (∃ k, m i = some k ∧ rowOf R f1 b1 (q ++ k) = some r ∧ ∀ s ∈ r, ∀ x, s ≠ .ref x) ∨ (m i = none ∧ q = [] ∧ ∀ s ∈ r, s = .junk ∨ ∃ x, s = .val x)
  swr : ∀ i k, m i = some k → G.wr f1 = true
  gone : ∀ o : Owner, o.valid R1 → ∀ q i k j, m i = some k → o ≠ .cell f1 b1 (q ++ k) j
  fresh : ∀ o : Owner, o.valid R1 → o.blk G ≠ hd.1
  freshin : ∀ q i k j, m i = some k → (Owner.cell f1 b1 (q ++ k) j).valid R → (Owner.cell f1 b1 (q ++ k) j).blk G ≠ hd.1
  elems : ∀ i r, c.row [(0, i)] = some r → ∀ jj s, r[jj]? = some s → (∀ k, m i = some k → w.cell? ⟨hd.1, hd.2.1 + i * hd.2.2 + jj, none⟩ = conc w G f1 b1 k jj) ∧
    (m i = none → ∃ u, w.cell? ⟨hd.1, hd.2.1 + i * hd.2.2 + jj, none⟩ = some u ∧ u.oneCell' = true ∧ ∀ x, s = .val x → u = x)
  lens : ∀ es n, c.sh = .own es n → hd.2.2 = es ∧ ∀ i r, c.row [(0, i)] = some r → r.length = es
  head : ∀ u, conc w G f2 p2.base p2.path p2.j = some u → (∀ es n, c.sh = .own es n → 0 < es ∧ ∃ cap, u = .slice (some ⟨hd.1, hd.2.1, none⟩) n cap ∧ n ≤ cap ∧ blockOk w true hd.1 (hd.2.1 + cap * es)) ∧
    (c.sh = .obj → hd.2.1 = 0 ∧ u = .pointer (some ⟨hd.1, 0, none⟩) ∧ blockOk w true hd.1 0)
  off : ∀ f b path r x, rowOf R1 f b path = some r → .ref x ∈ r → x.off (TT f2 p2) (NN f2 p2) f

def OwnerKind (G : Gh) (R R1 : Rt) (f2 : Nat) (p2 : Pl) (hd : Nat × Nat × Nat) (f1 : Nat) (b1 : Base) (m : Nat → Option (List Hop)) (o : Owner) : Prop :=
  (o = .cell f2 p2.base p2.path p2.j) ∨
  (∃ q i k j, m i = some k ∧ o = .cell f2 p2.base (q ++ (p2.j, i) :: p2.path) j ∧ (Owner.cell f1 b1 (q ++ k) j).valid R ∧ o.blk (G.moved f2 p2 hd f1 b1 m) = (Owner.cell f1 b1 (q ++ k) j).blk G) ∨
  (o.valid R1 ∧ o.blk (G.moved f2 p2 hd f1 b1 m) = o.blk G)

theorem setR_cells {R1 : Rt} {f2 : Nat} {p2 : Pl} {r2 : List Sh} (h2 : rowOf R1 f2 p2.base p2.path = some r2) (hj2 : p2.j < r2.length) {c : AV} (hc : c.one = true) {f' : Nat} {q : Pl} {s : Sh} (hs : cellOf (setR R1 f2 p2 c) f' q = some s) :
    (f' = f2 ∧ q = p2 ∧ s = c.sh) ∨
      (∃ qq i r, f' = f2 ∧ q.base = p2.base ∧ q.path = qq ++ (p2.j, i) :: p2.path ∧ c.row (qq ++ [(0, i)]) = some r ∧ r[q.j]? = some s) ∨
      (¬ (f' = f2 ∧ q = p2) ∧ ¬ (f' = f2 ∧ q.base = p2.base ∧ ∃ qq i, q.path = qq ++ (p2.j, i) :: p2.path) ∧ cellOf R1 f' q = some s) := by
  obtain ⟨b', path', j'⟩ := q
  obtain ⟨r', hr', hs'⟩ := cellOf_row hs
  rcases rowOf_setR_cases h2 hj2 hc hr' with ⟨rfl, e2, e3, rfl⟩ | ⟨qq, i, e1, e2, e3, e4⟩ | ⟨e1, e2, e3⟩
  · rw [List.getElem?_set] at hs'
    by_cases hjj : p2.j = j'
    · subst hjj
      left
      refine ⟨rfl, ?_, ?_⟩
      · obtain ⟨b2, path2, j2⟩ := p2; simp at e2 e3; simp [e2, e3]
      · simp [hj2] at hs'; exact hs'.symm
    · simp only [hjj, if_false] at hs'
      right; right
      refine ⟨fun e => hjj ?_, fun e => ?_, ?_⟩
      · rw [← e.2]
      · obtain ⟨_, _, qq, i, e4⟩ := e
        simp only at e4
        rw [e3] at e4
        exact path_ne_through _ _ _ _ e4
      · subst e2; subst e3; simp [cellOf, h2, hs']
  · right; left
    exact ⟨qq, i, r', e1, e2, e3, e4, hs'⟩
  · right; right
    refine ⟨fun e => e1 ⟨e.1, by rw [← e.2], by rw [← e.2]⟩, e2, by simp [cellOf, e3, hs']⟩


theorem ownerKind_of {w : World} {G : Gh} {R R1 : Rt} {f2 : Nat} {p2 : Pl} {r2 : List Sh} {c : AV} {hd : Nat × Nat × Nat} {f1 : Nat} {b1 : Base} {m : Nat → Option (List Hop)} (M : Moves w G R R1 f2 p2 c hd f1 b1 m)
    (h2 : rowOf R1 f2 p2.base p2.path = some r2) (hj2 : p2.j < r2.length) (hc : c.one = true) (o : Owner) (ho : o.valid (setR R1 f2 p2 c)) : OwnerKind G R R1 f2 p2 hd f1 b1 m o := by
  have hcells := fun f' q s hs => setR_cells (f' := f') (q := q) (s := s) h2 hj2 hc hs
  cases o with
  | bx f t =>
    right; right
    refine ⟨?_, rfl⟩
    simp only [Owner.valid, setR] at ho ⊢
    split at ho
    · cases hx : R1 f (.bx t) <;> simp_all
    · exact ho
  | cell f b path j =>
    simp only [Owner.valid] at ho
    have key : ∀ s, cellOf (setR R1 f2 p2 c) f ⟨b, path, j⟩ = some s → ((∃ es n, s = .own es n) ∨ s = .obj) → OwnerKind G R R1 f2 p2 hd f1 b1 m (.cell f b path j) := fun s hs hso => by
      rcases hcells f ⟨b, path, j⟩ s hs with ⟨e1, e2, e3⟩ | ⟨qq, i, r, e1, e2, e3, e4, e5⟩ | ⟨e1, e2, e3⟩
      · left
        show Owner.cell f b path j = .cell f2 p2.base p2.path p2.j
        rw [← e2, e1]
      · simp only at e2 e3 e5
        subst e1; subst e2; subst e3
        right; left
        rcases M.nodes _ _ _ e4 with ⟨k, hk, hrow, _⟩ | ⟨_, _, hpl⟩
        · refine ⟨qq, i, k, j, hk, rfl, ?_, ?_⟩
          · simp only [Owner.valid]
            have hcell : cellOf R f1 ⟨b1, qq ++ k, j⟩ = some s := by simp [cellOf, hrow, e5]
            rcases hso with ⟨es, n, rfl⟩ | rfl
            · exact Or.inl ⟨es, n, hcell⟩
            · exact Or.inr hcell
          · simp only [Owner.blk, Gh.moved_through _ _ _ _ hk]
        · rcases hpl s (List.mem_of_getElem? e5) with rfl | ⟨x, rfl⟩ <;> rcases hso with ⟨es, n, h⟩ | h <;> simp at h
      · right; right
        refine ⟨?_, ?_⟩
        · simp only [Owner.valid]
          rcases hso with ⟨es, n, rfl⟩ | rfl
          · exact Or.inl ⟨es, n, e3⟩
          · exact Or.inr e3
        · simp only [Owner.blk]
          rw [Gh.moved_other _ _ _ _ (fun e => e1 ⟨e.1, by obtain ⟨b2, path2, j2⟩ := p2; simp at e; simp [e]⟩) e2]
    rcases ho with ⟨es, n, ho⟩ | ho
    · exact key _ ho (Or.inl ⟨es, n, rfl⟩)
    · exact key _ ho (Or.inr rfl)


theorem Ok.populate {w : World} {G : Gh} {R R1 : Rt} (ok : Ok w G R) (ok1 : Ok w G R1) {f2 : Nat} {p2 : Pl} {r2 : List Sh} (h2 : rowOf R1 f2 p2.base p2.path = some r2) (hj2 : p2.j < r2.length) (hwr : G.wr f2 = true)
    {c : AV} (hc : c.one = true) (hown : (∃ es n, c.sh = .own es n) ∨ c.sh = .obj) {hd : Nat × Nat × Nat} {f1 : Nat} {b1 : Base} {m : Nat → Option (List Hop)} (M : Moves w G R R1 f2 p2 c hd f1 b1 m)
    (hleaf : ∀ s, r2[p2.j]? = some s → s.leaf = true) : Ok w (G.moved f2 p2 hd f1 b1 m) (setR R1 f2 p2 c) := by
  have hnothrough : ∀ q i r, rowOf R1 f2 p2.base (q ++ (p2.j, i) :: p2.path) = some r → False := by
    intro q
    induction q with
    | nil =>
      intro i r hr
      have hs : r2[p2.j]? = some r2[p2.j] := List.getElem?_eq_getElem hj2
      have hl := hleaf _ hs
      have hcell : cellOf R1 f2 ⟨p2.base, p2.path, p2.j⟩ = some r2[p2.j] := by simp [cellOf, h2, hs]
      rcases rowOf_hop hr with ⟨es, n, hh, _⟩ | ⟨hh, _⟩
      · rw [hcell] at hh; rw [Option.some.inj hh] at hl; simp [Sh.leaf] at hl
      · rw [hcell] at hh; rw [Option.some.inj hh] at hl; simp [Sh.leaf] at hl
    | cons a q ih =>
      intro i r hr
      obtain ⟨j0, i0⟩ := a
      rcases rowOf_hop hr with ⟨es, n, hh, _⟩ | ⟨hh, _⟩
      · obtain ⟨r', hr', _⟩ := cellOf_row hh; exact ih i r' hr'
      · obtain ⟨r', hr', _⟩ := cellOf_row hh; exact ih i r' hr'
  have hcells := fun f' q s hs => setR_cells (f' := f') (q := q) (s := s) h2 hj2 hc hs
  -- references that stay
  have hRV : ∀ f x u, x.off (TT f2 p2) (NN f2 p2) f → RV w G R1 f x u → RV w (G.moved f2 p2 hd f1 b1 m) (setR R1 f2 p2 c) f x u := by
    intro f x u ho hv
    refine RV.gen (G := G) (G' := G.moved f2 p2 hd f1 b1 m) (TT f2 p2) (NN f2 p2) (Wle.refl w) rfl ?_ ?_ f x u ho hv
    · intro f p es n hT hcell
      rcases hcells f p _ hcell with ⟨e1, e2, _⟩ | ⟨qq, i, r, e1, e2, e3, _⟩ | ⟨e1, e2, e3⟩
      · exact absurd ⟨e1, by rw [e2], Or.inl ⟨by rw [e2], by rw [e2]⟩⟩ hT
      · exact absurd ⟨e1, e2, Or.inr ⟨qq, i, e3⟩⟩ hT
      · refine ⟨e3, Gh.moved_other _ _ _ _ (fun e => hT ⟨e.1, e.2.1, Or.inl e.2.2⟩) e2⟩
    · intro f b path r' hN hm hr
      refine ⟨?_, Gh.moved_addr _ _ _ hN⟩
      rcases rowOf_setR_cases h2 hj2 hc hr with ⟨rfl, rfl, rfl, rfl⟩ | ⟨q, i, e1, e2, e3, _⟩ | ⟨_, _, e3⟩
      · exact ⟨r2, h2, by simp⟩
      · exact absurd ⟨e1, e2, q, i, e3⟩ hN
      · exact ⟨r', e3, rfl⟩
  -- cells that stay
  have hCS : ∀ f b path j s u r, rowOf R1 f b path = some r → r[j]? = some s → ¬ (f = f2 ∧ b = p2.base ∧ path = p2.path ∧ j = p2.j) → ¬ (f = f2 ∧ b = p2.base ∧ ∃ q i, path = q ++ (p2.j, i) :: p2.path) →
      CS w G R1 f b path j s u → CS w (G.moved f2 p2 hd f1 b1 m) (setR R1 f2 p2 c) f b path j s u := by
    intro f b path j s u r hr hs h3 h4 hcs
    cases s <;> simp only [CS] at hcs ⊢
    · exact hcs
    · rw [Gh.moved_other _ _ _ _ h3 h4]; exact hcs
    · rw [Gh.moved_other _ _ _ _ h3 h4]; exact hcs
    · rename_i x
      exact hRV f x u (M.off f b path r x hr (List.mem_of_getElem? hs)) hcs
  have hconc : ∀ f b path j, ¬ (f = f2 ∧ b = p2.base ∧ ∃ q i, path = q ++ (p2.j, i) :: p2.path) → conc w (G.moved f2 p2 hd f1 b1 m) f b path j = conc w G f b path j := by
    intro f b path j h4
    simp only [conc, Gh.moved_addr _ _ _ h4, Gh.moved_tm]
  constructor
  · -- len
    intro f b par j i es n r hcell hr
    rcases hcells f ⟨b, par, j⟩ _ hcell with ⟨e1, e2, e3⟩ | ⟨qq, i', r', e1, e2, e3, e4, e5⟩ | ⟨e1, e2, e3⟩
    · subst e1
      have hb : b = p2.base := by rw [← e2]
      have hpar : par = p2.path := by rw [← e2]
      have hjj : j = p2.j := by rw [← e2]
      subst hb; subst hpar; subst hjj
      have := rowOf_setR_through h2 hj2 c hc [] i
      rw [show [] ++ (p2.j, i) :: p2.path = (p2.j, i) :: p2.path from rfl] at this
      rw [this] at hr
      exact (M.lens es n e3.symm).2 i r hr
    · simp only at e2 e3 e5
      subst e1; subst e2; subst e3
      have := rowOf_setR_through h2 hj2 c hc ((j, i) :: qq) i'
      rw [show ((j, i) :: qq) ++ (p2.j, i') :: p2.path = (j, i) :: (qq ++ (p2.j, i') :: p2.path) from rfl] at this
      rw [this] at hr
      rcases M.nodes _ _ _ hr with ⟨k, hk, hrow, _⟩ | ⟨_, hq, _⟩
      · rcases M.nodes _ _ _ e4 with ⟨k', hk', hrow', _⟩ | ⟨hn, _, _⟩
        · obtain rfl : k = k' := Option.some.inj (hk.symm.trans hk')
          exact ok.len f1 b1 (qq ++ k) j i es n r (by simp [cellOf, hrow', e5]) hrow
        · rw [hn] at hk; simp at hk
      · simp at hq
    · rcases rowOf_setR_cases h2 hj2 hc hr with ⟨rfl, rfl, e5, rfl⟩ | ⟨q, i', e5, e6, e7, _⟩ | ⟨_, _, e5⟩
      · rw [List.length_set]
        exact ok1.len _ _ _ _ _ _ _ _ e3 (by rw [e5]; exact h2)
      · cases q with
        | nil =>
          simp only [List.nil_append, List.cons.injEq, Prod.mk.injEq] at e7
          exact absurd ⟨e5, by obtain ⟨b2, path2, j2⟩ := p2; simp at e6 e7; simp [e6, e7]⟩ e1
        | cons a q =>
          simp only [List.cons_append, List.cons.injEq] at e7
          exact absurd ⟨e5, e6, q, i', e7.2⟩ e2
      · exact ok1.len _ _ _ _ _ _ _ _ e3 e5
  · -- cell
    intro f b path r j s hr hs
    rcases rowOf_setR_cases h2 hj2 hc hr with ⟨rfl, rfl, rfl, rfl⟩ | ⟨q, i, rfl, rfl, rfl, hrow⟩ | ⟨e1, e2, e3⟩
    · have hnt : ¬ (f = f ∧ p2.base = p2.base ∧ ∃ q i, p2.path = q ++ (p2.j, i) :: p2.path) := fun ⟨_, _, q, i, e⟩ => path_ne_through _ _ _ _ e
      rw [hconc _ _ _ _ hnt]
      by_cases hjj : j = p2.j
      · subst hjj
        have hss : s = c.sh := by simpa [hj2] using hs.symm
        subst hss
        obtain ⟨u, hu, _⟩ := ok1.cell _ _ _ _ _ _ h2 (List.getElem?_eq_getElem hj2)
        refine ⟨u, hu, ?_⟩
        obtain ⟨hh1, hh2⟩ := M.head u hu
        rcases hown with ⟨es, n, he⟩ | he
        · rw [he]
          obtain ⟨hp, cap, hu1, hu2, hu3⟩ := hh1 es n he
          simp only [CS, Gh.moved_here]
          exact ⟨(M.lens es n he).1, hp, cap, hu1, hu2, by rw [show (G.moved f p2 hd f1 b1 m).wr f = G.wr f from rfl, hwr]; exact hu3⟩
        · rw [he]
          obtain ⟨ha, hb', hc'⟩ := hh2 he
          simp only [CS, Gh.moved_here]
          exact ⟨ha, hb', by rw [show (G.moved f p2 hd f1 b1 m).wr f = G.wr f from rfl, hwr]; exact hc'⟩
      · rw [List.getElem?_set_ne (Ne.symm hjj)] at hs
        obtain ⟨u, hu, hcs⟩ := ok1.cell _ _ _ _ _ _ h2 hs
        exact ⟨u, hu, hCS _ _ _ _ _ _ _ h2 hs (fun e => hjj e.2.2.2) hnt hcs⟩
    · rcases M.nodes _ _ _ hrow with ⟨k, hk, hsrc, href⟩ | ⟨hn, rfl, hpl⟩
      · obtain ⟨u, hu, hcs⟩ := ok.cell _ _ _ _ _ _ hsrc hs
        refine ⟨u, ?_, ?_⟩
        · cases q with
          | nil =>
            simp only [conc]
            rw [if_pos (inMem_through _ _ _ _)]
            simp only [List.nil_append, Gh.moved_addr_first]
            rw [((M.elems i r (by simpa using hrow) j s hs).1 k hk)]
            simpa using hu
          | cons a q =>
            simp only [conc] at hu ⊢
            rw [if_pos (show inMem b1 ((a :: q) ++ k) = true from inMem_cons _ _ _)] at hu
            rw [if_pos (inMem_through _ _ _ _), Gh.moved_addr_through _ _ _ hk (by simp)]
            exact hu
        · cases s <;> simp only [CS] at hcs ⊢
          · exact hcs
          · rw [Gh.moved_through _ _ _ _ hk, show (G.moved f p2 hd f1 b1 m).wr f = G.wr f from rfl, hwr]
            rw [M.swr i k hk] at hcs; exact hcs
          · rw [Gh.moved_through _ _ _ _ hk, show (G.moved f p2 hd f1 b1 m).wr f = G.wr f from rfl, hwr]
            rw [M.swr i k hk] at hcs; exact hcs
          · exact absurd rfl (href _ (List.mem_of_getElem? hs) _)
      · obtain ⟨u, hu, _, hval⟩ := (M.elems i r (by simpa using hrow) j s hs).2 hn
        refine ⟨u, ?_, ?_⟩
        · simp only [conc]
          rw [if_pos (inMem_through _ _ _ _)]
          simp only [List.nil_append, Gh.moved_addr_first]
          exact hu
        · rcases hpl s (List.mem_of_getElem? hs) with rfl | ⟨x, rfl⟩
          · simp [CS]
          · simp only [CS]; exact hval x rfl
    · obtain ⟨u, hu, hcs⟩ := ok1.cell _ _ _ _ _ _ e3 hs
      exact ⟨u, by rw [hconc _ _ _ _ e2]; exact hu, hCS _ _ _ _ _ _ _ e3 hs (fun e => e1 ⟨e.1, e.2.1, e.2.2.1⟩) e2 hcs⟩
  · -- one
    intro f b path r j s u hr hs hu
    rcases rowOf_setR_cases h2 hj2 hc hr with ⟨rfl, rfl, rfl, rfl⟩ | ⟨q, i, rfl, rfl, rfl, hrow⟩ | ⟨e1, e2, e3⟩
    · have hnt : ¬ (f = f ∧ p2.base = p2.base ∧ ∃ q i, p2.path = q ++ (p2.j, i) :: p2.path) := fun ⟨_, _, q, i, e⟩ => path_ne_through _ _ _ _ e
      rw [hconc _ _ _ _ hnt] at hu
      have hjr : j < r2.length := by have := (List.getElem?_eq_some_iff.1 hs).1; simpa using this
      exact ok1.one _ _ _ _ _ _ _ h2 (List.getElem?_eq_getElem hjr) hu
    · simp only [conc] at hu
      rw [if_pos (inMem_through _ _ _ _)] at hu
      rcases M.nodes _ _ _ hrow with ⟨k, hk, hsrc, href⟩ | ⟨hn, rfl, hpl⟩
      · cases q with
        | nil =>
          simp only [List.nil_append, Gh.moved_addr_first] at hu
          rw [((M.elems i r (by simpa using hrow) j s hs).1 k hk)] at hu
          exact ok.one _ _ _ _ _ _ _ (by simpa using hsrc) hs hu
        | cons a q =>
          rw [Gh.moved_addr_through _ _ _ hk (by simp)] at hu
          refine ok.one _ _ _ _ _ _ _ hsrc hs ?_
          simp only [conc]
          rw [if_pos (show inMem b1 ((a :: q) ++ k) = true from inMem_cons _ _ _)]
          exact hu
      · obtain ⟨u', hu', hone, _⟩ := (M.elems i r (by simpa using hrow) j s hs).2 hn
        simp only [List.nil_append, Gh.moved_addr_first] at hu
        rw [hu'] at hu
        rw [← Option.some.inj hu]
        exact hone
    · rw [hconc _ _ _ _ e2] at hu
      exact ok1.one _ _ _ _ _ _ _ e3 hs hu
  · -- box
    intro f t ht
    have : blockOk w (G.wr f) (G.bb f t) 0 := ok1.box f t (by
      simp only [setR] at ht
      split at ht
      · cases hx : R1 f (.bx t) <;> simp_all
      · exact ht)
    exact this
  · -- inj
    have hvalid := fun o ho => ownerKind_of M h2 hj2 hc o ho
    intro o o' ho ho' hm hb
    have hwr1 : ∀ f, (G.moved f2 p2 hd f1 b1 m).wr f = G.wr f := fun _ => rfl
    rw [hwr1] at hm
    rcases hvalid o ho with rfl | ⟨q, i, k, j, hk, rfl, hv1, hb1⟩ | ⟨hv1, hb1⟩
    · have hbl : (Owner.cell f2 p2.base p2.path p2.j).blk (G.moved f2 p2 hd f1 b1 m) = hd.1 := by simp only [Owner.blk, Gh.moved_here]
      rw [hbl] at hb
      rcases hvalid o' ho' with rfl | ⟨q', i', k', j', hk', rfl, hv2, hb2⟩ | ⟨hv2, hb2⟩
      · rfl
      · exact absurd (hb.trans hb2).symm (M.freshin _ _ _ _ hk' hv2)
      · exact absurd (hb.trans hb2).symm (M.fresh _ hv2)
    · rcases hvalid o' ho' with rfl | ⟨q', i', k', j', hk', rfl, hv2, hb2⟩ | ⟨hv2, hb2⟩
      · have hbl : (Owner.cell f2 p2.base p2.path p2.j).blk (G.moved f2 p2 hd f1 b1 m) = hd.1 := by simp only [Owner.blk, Gh.moved_here]
        rw [hbl] at hb
        exact absurd (hb1.symm.trans hb) (M.freshin _ _ _ _ hk hv1)
      · have := ok.inj _ _ hv1 hv2 (M.swr i k hk) (hb1.symm.trans (hb.trans hb2))
        simp only [Owner.cell.injEq, true_and] at this
        obtain ⟨e1, rfl⟩ := this
        obtain ⟨rfl, rfl⟩ := M.minj _ _ _ _ _ _ hk hk' e1
        rfl
      · have := ok.inj _ _ hv1 (M.sub _ hv2) (M.swr i k hk) (hb1.symm.trans (hb.trans hb2))
        exact absurd this.symm (M.gone _ hv2 _ _ _ _ hk)
    · rcases hvalid o' ho' with rfl | ⟨q', i', k', j', hk', rfl, hv2, hb2⟩ | ⟨hv2, hb2⟩
      · have hbl : (Owner.cell f2 p2.base p2.path p2.j).blk (G.moved f2 p2 hd f1 b1 m) = hd.1 := by simp only [Owner.blk, Gh.moved_here]
        rw [hbl] at hb
        exact absurd (hb1.symm.trans hb) (M.fresh _ hv1)
      · have := ok.inj _ _ (M.sub _ hv1) hv2 hm (hb1.symm.trans (hb.trans hb2))
        exact absurd this (M.gone _ hv1 _ _ _ _ hk')
      · exact ok1.inj _ _ hv1 hv2 hm (hb1.symm.trans (hb.trans hb2))

end Go.Proofs.Ythlehngbadianaa.Ai
/- Roots: forgetting, slots, new boxes. -/
set_option linter.unusedVariables false
namespace Go.Proofs.Ythlehngbadianaa.Ai
open Go Go.RowKit

/-- R' says what R says, or less. -/
def Weak (R' R : Rt) : Prop := ∀ f b path r', rowOf R' f b path = some r' → ∃ r, rowOf R f b path = some r ∧ r.length = r'.length ∧ ∀ (j : Nat) (s' : Sh), r'[j]? = some s' → s' = Sh.junk ∨ r[j]? = some s'

theorem Weak.cell {R' R : Rt} (h : Weak R' R) {f : Nat} {p : Pl} {s : Sh} (hs : cellOf R' f p = some s) : s = .junk ∨ cellOf R f p = some s := by
  obtain ⟨b, path, j⟩ := p
  obtain ⟨r', hr', hj⟩ := cellOf_row hs
  obtain ⟨r, hr, _, hc⟩ := h _ _ _ _ hr'
  rcases hc _ _ hj with h1 | h1
  · exact Or.inl h1
  · exact Or.inr (by simp [cellOf, hr, h1])

theorem Weak.le {R' R : Rt} (h : Weak R' R) : Le R' R := by
  constructor
  · intro f p es n hp
    rcases h.cell hp with h1 | h1
    · simp at h1
    · exact h1
  · intro f b path r' _ hr
    obtain ⟨r, h1, h2, _⟩ := h _ _ _ _ hr
    exact ⟨r, h1, h2⟩

theorem rowOf_nil_some {R : Rt} {f : Nat} {b : Base} : (R f b).isSome = (rowOf R f b []).isSome := by
  simp only [rowOf, AV.row, AV.sub]
  cases R f b <;> simp

theorem Weak.valid {R' R : Rt} (h : Weak R' R) {o : Owner} (ho : o.valid R') : o.valid R := by
  cases o with
  | bx f t =>
    simp only [Owner.valid] at ho ⊢
    rw [rowOf_nil_some] at ho ⊢
    obtain ⟨r', hr'⟩ := Option.isSome_iff_exists.1 ho
    obtain ⟨r, hr, _⟩ := h _ _ _ _ hr'
    simp [hr]
  | cell f b path j =>
    simp only [Owner.valid] at ho ⊢
    rcases ho with ⟨es, n, ho⟩ | ho
    · rcases h.cell ho with h1 | h1
      · simp at h1
      · exact Or.inl ⟨es, n, h1⟩
    · rcases h.cell ho with h1 | h1
      · simp at h1
      · exact Or.inr h1

theorem Ok.weaken {w : World} {G : Gh} {R R' : Rt} (ok : Ok w G R) (h : Weak R' R) : Ok w G R' := by
  have hle := h.le
  refine ⟨?_, ?_, ?_, ?_, fun o o' ho ho' hm hb => ok.inj o o' (h.valid ho) (h.valid ho') hm hb⟩
  rotate_right 2
  · intro f b path r' j s u hr' hs hu
    obtain ⟨r, hr, hl, _⟩ := h _ _ _ _ hr'
    have hj : j < r.length := by rw [hl]; exact (List.getElem?_eq_some_iff.1 hs).1
    exact ok.one _ _ _ _ _ _ _ hr (List.getElem?_eq_getElem hj) hu
  rotate_left 1
  · intro f b par j i es n r' hc hr'
    obtain ⟨r, hr, hl, _⟩ := h _ _ _ _ hr'
    rw [← hl]
    exact ok.len _ _ _ _ _ _ _ _ (hle.own _ _ _ _ hc) hr
  · intro f b path r' j s hr' hs
    obtain ⟨r, hr, hl, hc⟩ := h _ _ _ _ hr'
    rcases hc j s hs with rfl | h1
    · have hj : j < r.length := by rw [hl]; exact (List.getElem?_eq_some_iff.1 hs).1
      obtain ⟨u, hu, _⟩ := ok.cell _ _ _ _ _ _ hr (List.getElem?_eq_getElem hj)
      exact ⟨u, hu, by simp [CS]⟩
    · obtain ⟨u, hu, hcs⟩ := ok.cell _ _ _ _ _ _ hr h1
      exact ⟨u, hu, hcs.le (Wle.refl w) hle⟩
  · intro f t ht
    exact ok.box f t (by
      rw [rowOf_nil_some] at ht ⊢
      obtain ⟨r', hr'⟩ := Option.isSome_iff_exists.1 ht
      obtain ⟨r, hr, _⟩ := h _ _ _ _ hr'
      simp [hr])

def setRoot (R : Rt) (f : Nat) (b : Base) (x : AV) : Rt := fun f' b' => if f' = f ∧ b' = b then some x else R f' b'

theorem rowOf_setRoot_here (R : Rt) (f : Nat) (b : Base) (x : AV) (path : List Hop) : rowOf (setRoot R f b x) f b path = x.row path := by simp [rowOf, setRoot]
theorem rowOf_setRoot_other (R : Rt) (f : Nat) (b : Base) (x : AV) (f' : Nat) (b' : Base) (path : List Hop) (h : ¬ (f' = f ∧ b' = b)) : rowOf (setRoot R f b x) f' b' path = rowOf R f' b' path := by simp [rowOf, setRoot, h]

/-- A value none of whose cells owns anything. -/
def AV.flat (x : AV) : Prop := ∀ c ∈ x.cells, c.one = true ∧ c.sh.leaf = true

theorem AV.flat_row {x : AV} (h : x.flat) : x.row [] = some (x.cells.map AV.sh) ∧ ∀ a t, x.row (t ++ [a]) = none := by
  refine ⟨rfl, fun a t => ?_⟩
  obtain ⟨j, i⟩ := a
  simp only [AV.row, AV.sub_append]
  have : x.sub [(j, i)] = none := by
    simp only [AV.sub, Option.bind_some]
    cases hc : x.cells[j]? with
    | none => rfl
    | some c =>
      obtain ⟨h1, h2⟩ := h c (List.mem_of_getElem? hc)
      simp only [Option.bind_some]
      cases c <;> simp_all [AV.sh, Sh.leaf, AV.elem]
  simp [this]

theorem AV.flat_row_cases {x : AV} (h : x.flat) {path : List Hop} {r : List Sh} (hr : x.row path = some r) : path = [] ∧ r = x.cells.map AV.sh := by
  rcases List.eq_nil_or_concat path with rfl | ⟨t, a, rfl⟩
  · exact ⟨rfl, (Option.some.inj hr).symm⟩
  · rw [List.concat_eq_append, (AV.flat_row h).2] at hr
    simp at hr

theorem rowOf_setRoot_flat {R : Rt} {f : Nat} {b : Base} {x : AV} (hx : x.flat) {f' : Nat} {b' : Base} {path : List Hop} {r : List Sh} (hr : rowOf (setRoot R f b x) f' b' path = some r) :
    (f' = f ∧ b' = b ∧ path = [] ∧ r = x.cells.map AV.sh) ∨ (¬ (f' = f ∧ b' = b) ∧ rowOf R f' b' path = some r) := by
  by_cases h : f' = f ∧ b' = b
  · obtain ⟨rfl, rfl⟩ := h
    rw [rowOf_setRoot_here] at hr
    obtain ⟨h1, h2⟩ := AV.flat_row_cases hx hr
    exact Or.inl ⟨rfl, rfl, h1, h2⟩
  · rw [rowOf_setRoot_other _ _ _ _ _ _ _ h] at hr
    exact Or.inr ⟨h, hr⟩

theorem cellOf_setRoot_own {R : Rt} {f : Nat} {b : Base} {x : AV} (hx : x.flat) {f' : Nat} {q : Pl} {s : Sh} (hs : cellOf (setRoot R f b x) f' q = some s) (hl : s.leaf = false) :
    ¬ (f' = f ∧ q.base = b) ∧ cellOf R f' q = some s := by
  obtain ⟨b', path', j'⟩ := q
  obtain ⟨r, hr, hj⟩ := cellOf_row hs
  rcases rowOf_setRoot_flat hx hr with ⟨_, _, _, rfl⟩ | ⟨h1, h2⟩
  · simp only [List.getElem?_map, Option.map_eq_some_iff] at hj
    obtain ⟨c, hc, rfl⟩ := hj
    rw [(hx c (List.mem_of_getElem? hc)).2] at hl
    simp at hl
  · exact ⟨h1, by simp [cellOf, h2, hj]⟩

def Gh.setTm (G : Gh) (f k : Nat) (v : Value) : Gh := { G with tm := fun f' k' => if f' = f ∧ k' = k then v else G.tm f' k' }
def Gh.setBb (G : Gh) (f t : Nat) (B : Nat) : Gh := { G with bb := fun f' t' => if f' = f ∧ t' = t then B else G.bb f' t' }

/-- The references of a forest do not lead to a root. -/
def NoRefs (R : Rt) (f2 : Nat) (b2 : Base) : Prop := ∀ f b path r x, rowOf R f b path = some r → .ref x ∈ r → x.off (fun f p => f = f2 ∧ p.base = b2) (fun f b _ => f = f2 ∧ b = b2) f

theorem AV.off_false : ∀ (f : Nat) (x : AV), x.off (fun _ _ => False) (fun _ _ _ => False) f
  | f, .v _ => by simp [AV.off]
  | f, .junk => by simp [AV.off]
  | 0, .up x => by simp [AV.off]
  | f + 1, .up x => by simp only [AV.off]; exact AV.off_false f x
  | f, .fn g caps => by simp only [AV.off]; exact fun c hc => AV.off_false f c
  | f, .sl .. => by simp [AV.off]
  | f, .sa .. => by simp [AV.off]
  | f, .ptr .. => by simp [AV.off]
  | f, .agg .. => by simp [AV.off]
  | f, .tup .. => by simp [AV.off]
  | f, .own .. => by simp [AV.off]
  | f, .obj .. => by simp [AV.off]
  | f, .lapp .. => by simp [AV.off]
termination_by f x => SizeOf.sizeOf x

/-- A slot gets a value that owns nothing. -/
theorem Ok.slot {w : World} {G : Gh} {R : Rt} (ok : Ok w G R) (f k : Nat) {x : AV} {v : Value} (hx : x.flat)
    (hc : ∀ (j : Nat) (c : AV), x.cells[j]? = some c → ∃ u, (flatV v)[j]? = some u ∧ u.oneCell' = true ∧ RV w G R f c u) : Ok w (G.setTm f k v) (setRoot R f (.sl k) x) := by
  have hRV : ∀ f' y u, RV w G R f' y u → RV w (G.setTm f k v) (setRoot R f (.sl k) x) f' y u := by
    intro f' y u hy
    refine RV.gen (G := G) (G' := G.setTm f k v) (fun _ _ => False) (fun _ _ _ => False) (Wle.refl w) rfl ?_ ?_ f' y u (AV.off_false f' y) hy
    · intro f1 p es n _ h1
      exact ⟨(cellOf_setRoot_own hx h1 rfl).2, rfl⟩
    · intro f1 b1 path r' _ hm hr
      rcases rowOf_setRoot_flat hx hr with ⟨_, rfl, rfl, _⟩ | ⟨_, h2⟩
      · simp [inMem] at hm
      · exact ⟨⟨r', h2, rfl⟩, addr_cell rfl (fun _ _ _ _ => rfl)⟩
  have haddr : ∀ f1 b1 path, (G.setTm f k v).addr f1 b1 path = G.addr f1 b1 path := fun f1 b1 path => addr_cell rfl (fun _ _ _ _ => rfl)
  have hconc : ∀ f1 b1 path j, ¬ (f1 = f ∧ b1 = .sl k) → conc w (G.setTm f k v) f1 b1 path j = conc w G f1 b1 path j := by
    intro f1 b1 path j h1
    simp only [conc, haddr]
    split
    · rfl
    · cases b1 with
      | bx t => rfl
      | sl k1 =>
        have : ¬ (f1 = f ∧ k1 = k) := fun e => h1 ⟨e.1, by rw [e.2]⟩
        simp only [Gh.setTm, this, if_false]
  refine ⟨?_, ?_, ?_, ?_, ?_⟩
  rotate_right 3
  · intro f1 b1 path r j s u hr hs hu
    rcases rowOf_setRoot_flat hx hr with ⟨rfl, rfl, rfl, rfl⟩ | ⟨h1, h2⟩
    · simp only [List.getElem?_map, Option.map_eq_some_iff] at hs
      obtain ⟨c, hcj, rfl⟩ := hs
      obtain ⟨u', hu', hone, _⟩ := hc j c hcj
      have : conc w (G.setTm f1 k v) f1 (.sl k) [] j = some u' := by simp [conc, inMem, Gh.setTm, hu']
      rw [this] at hu
      rw [← Option.some.inj hu]; exact hone
    · rw [hconc _ _ _ _ h1] at hu
      exact ok.one _ _ _ _ _ _ _ h2 hs hu
  rotate_left 2
  · intro f1 b1 par j i es n r h1 h2
    have h1' := cellOf_setRoot_own hx h1 rfl
    rcases rowOf_setRoot_flat hx h2 with ⟨e1, e2, e3, _⟩ | ⟨_, h3⟩
    · simp at e3
    · exact ok.len _ _ _ _ _ _ _ _ h1'.2 h3
  · intro f1 b1 path r j s hr hs
    rcases rowOf_setRoot_flat hx hr with ⟨rfl, rfl, rfl, rfl⟩ | ⟨h1, h2⟩
    · simp only [List.getElem?_map, Option.map_eq_some_iff] at hs
      obtain ⟨c, hcj, rfl⟩ := hs
      obtain ⟨u, hu, _, hv⟩ := hc j c hcj
      refine ⟨u, by simp [conc, inMem, Gh.setTm, hu], ?_⟩
      have := hx c (List.mem_of_getElem? hcj)
      have hv' := hRV _ _ _ hv
      cases c <;> simp_all [AV.one, AV.sh, Sh.leaf, CS, RV]
    · obtain ⟨u, hu, hcs⟩ := ok.cell _ _ _ _ _ _ h2 hs
      refine ⟨u, by rw [hconc _ _ _ _ h1]; exact hu, ?_⟩
      · cases s <;> simp only [CS] at hcs ⊢
        · exact hcs
        · exact hcs
        · exact hcs
        · exact hRV _ _ _ hcs
  · intro f1 t ht
    refine ok.box f1 t ?_
    simpa [setRoot] using ht
  · intro o o' ho ho' hm hb
    have hval : ∀ o : Owner, o.valid (setRoot R f (.sl k) x) → o.valid R := by
      intro o ho
      cases o with
      | bx f1 t => simpa [Owner.valid, setRoot] using ho
      | cell f1 b1 path j =>
        simp only [Owner.valid] at ho ⊢
        rcases ho with ⟨es, n, ho⟩ | ho
        · exact Or.inl ⟨es, n, (cellOf_setRoot_own hx ho rfl).2⟩
        · exact Or.inr (cellOf_setRoot_own hx ho rfl).2
    refine ok.inj o o' (hval o ho) (hval o' ho') hm ?_
    have : ∀ o : Owner, o.blk (G.setTm f k v) = o.blk G := fun o => by cases o <;> rfl
    rw [this, this] at hb
    exact hb

/-- A new box: a block that nobody owns. -/
theorem Ok.newBox {w : World} {G : Gh} {R : Rt} (ok : Ok w G R) (f t B : Nat) {x : AV} (hx : x.flat) (hB : ∀ o : Owner, o.valid R → o.blk G ≠ B) (hblk : blockOk w (G.wr f) B 0)
    (hc : ∀ (j : Nat) (c : AV), x.cells[j]? = some c → ∃ u, w.cell? ⟨B, j, none⟩ = some u ∧ u.oneCell' = true ∧ RV w G R f c u) (hn : NoRefs R f (.bx t)) (hnx : ∀ c ∈ x.cells, c.off (fun f1 p => f1 = f ∧ p.base = .bx t) (fun f1 b _ => f1 = f ∧ b = .bx t) f) :
    Ok w (G.setBb f t B) (setRoot R f (.bx t) x) := by
  have haddr : ∀ f1 b1 path, ¬ (f1 = f ∧ b1 = .bx t) → (G.setBb f t B).addr f1 b1 path = G.addr f1 b1 path := by
    intro f1 b1 path h
    cases path with
    | nil =>
      cases b1 with
      | sl k => rfl
      | bx t1 =>
        have : ¬ (f1 = f ∧ t1 = t) := fun e => h ⟨e.1, by rw [e.2]⟩
        simp [Gh.addr, Gh.setBb, this]
    | cons a par => obtain ⟨j, i⟩ := a; rfl
  have hRV : ∀ f' y u, y.off (fun f1 p => f1 = f ∧ p.base = .bx t) (fun f1 b _ => f1 = f ∧ b = .bx t) f' → RV w G R f' y u → RV w (G.setBb f t B) (setRoot R f (.bx t) x) f' y u := by
    intro f' y u hoff hy
    refine RV.gen (G := G) (G' := G.setBb f t B) _ _ (Wle.refl w) rfl ?_ ?_ f' y u hoff hy
    · intro f1 p es n _ h1
      exact ⟨(cellOf_setRoot_own hx h1 rfl).2, rfl⟩
    · intro f1 b1 path r' hN hm hr
      rcases rowOf_setRoot_flat hx hr with ⟨e1, e2, _, _⟩ | ⟨_, h2⟩
      · exact absurd ⟨e1, e2⟩ hN
      · exact ⟨⟨r', h2, rfl⟩, haddr _ _ _ hN⟩
  refine ⟨?_, ?_, ?_, ?_, ?_⟩
  rotate_right 3
  · intro f1 b1 path r j s u hr hs hu
    rcases rowOf_setRoot_flat hx hr with ⟨rfl, rfl, rfl, rfl⟩ | ⟨h1, h2⟩
    · simp only [List.getElem?_map, Option.map_eq_some_iff] at hs
      obtain ⟨c, hcj, rfl⟩ := hs
      obtain ⟨u', hu', hone, _⟩ := hc j c hcj
      have : conc w (G.setBb f1 t B) f1 (.bx t) [] j = some u' := by simp [conc, inMem, Gh.setBb, Gh.addr, hu']
      rw [this] at hu
      rw [← Option.some.inj hu]; exact hone
    · simp only [conc, haddr _ _ _ h1] at hu
      exact ok.one _ _ _ _ _ _ _ h2 hs hu
  rotate_left 2
  · intro f1 b1 par j i es n r h1 h2
    have h1' := cellOf_setRoot_own hx h1 rfl
    rcases rowOf_setRoot_flat hx h2 with ⟨e1, e2, e3, _⟩ | ⟨_, h3⟩
    · simp at e3
    · exact ok.len _ _ _ _ _ _ _ _ h1'.2 h3
  · intro f1 b1 path r j s hr hs
    rcases rowOf_setRoot_flat hx hr with ⟨rfl, rfl, rfl, rfl⟩ | ⟨h1, h2⟩
    · simp only [List.getElem?_map, Option.map_eq_some_iff] at hs
      obtain ⟨c, hcj, rfl⟩ := hs
      obtain ⟨u, hu, _, hv⟩ := hc j c hcj
      refine ⟨u, by simp [conc, inMem, Gh.setBb, Gh.addr, hu], ?_⟩
      have := hx c (List.mem_of_getElem? hcj)
      have hv' := hRV _ _ _ (hnx c (List.mem_of_getElem? hcj)) hv
      cases c <;> simp_all [AV.one, AV.sh, Sh.leaf, CS, RV]
    · obtain ⟨u, hu, hcs⟩ := ok.cell _ _ _ _ _ _ h2 hs
      refine ⟨u, by simp only [conc, haddr _ _ _ h1] at hu ⊢; exact hu, ?_⟩
      cases s <;> simp only [CS] at hcs ⊢
      · exact hcs
      · exact hcs
      · exact hcs
      · exact hRV _ _ _ (hn _ _ _ _ _ h2 (List.mem_of_getElem? hs)) hcs
  · intro f1 t1 ht
    by_cases h : f1 = f ∧ t1 = t
    · obtain ⟨rfl, rfl⟩ := h
      simpa [Gh.setBb] using hblk
    · have hne : ¬ (f1 = f ∧ (Base.bx t1) = .bx t) := fun e => h ⟨e.1, by simpa using e.2⟩
      simp only [setRoot, hne, if_false] at ht
      have := ok.box f1 t1 ht
      simpa [Gh.setBb, h] using this
  · intro o o' ho ho' hm hb
    have hval : ∀ o : Owner, o.valid (setRoot R f (.bx t) x) → (o = .bx f t ∧ o.blk (G.setBb f t B) = B) ∨ (o.valid R ∧ o.blk (G.setBb f t B) = o.blk G) := by
      intro o ho
      cases o with
      | bx f1 t1 =>
        by_cases h : f1 = f ∧ t1 = t
        · obtain ⟨rfl, rfl⟩ := h
          left; exact ⟨rfl, by simp [Owner.blk, Gh.setBb]⟩
        · have hne : ¬ (f1 = f ∧ (Base.bx t1) = .bx t) := fun e => h ⟨e.1, by simpa using e.2⟩
          right
          exact ⟨by simpa only [Owner.valid, setRoot, hne, if_false] using ho, by simp [Owner.blk, Gh.setBb, h]⟩
      | cell f1 b1 path j =>
        right
        refine ⟨?_, rfl⟩
        simp only [Owner.valid] at ho ⊢
        rcases ho with ⟨es, n, ho⟩ | ho
        · exact Or.inl ⟨es, n, (cellOf_setRoot_own hx ho rfl).2⟩
        · exact Or.inr (cellOf_setRoot_own hx ho rfl).2
    rcases hval o ho with ⟨rfl, h1⟩ | ⟨h1, h2⟩
    · rcases hval o' ho' with ⟨rfl, h3⟩ | ⟨h3, h4⟩
      · rfl
      · exact absurd (by rw [← h4, ← hb, h1]) (hB o' h3)
    · rcases hval o' ho' with ⟨rfl, h3⟩ | ⟨h3, h4⟩
      · exact absurd (by rw [← h2, hb, h3]) (hB o h1)
      · exact ok.inj o o' h1 h3 hm (by rw [← h2, ← h4]; exact hb)

end Go.Proofs.Ythlehngbadianaa.Ai
/- The state of a call: frames of slots and boxes; what a slot's value is worth; how a slot is set. -/
set_option linter.unusedVariables false
namespace Go.Proofs.Ythlehngbadianaa.Ai
open Go Go.RowKit

abbrev Al := List (Nat × AV)
def Al.get : Al → Nat → Option AV
  | [], _ => none
  | (a, x) :: l, k => if a = k then some x else Al.get l k
def Al.del : Al → Nat → Al
  | [], _ => []
  | (a, x) :: l, k => if a = k then Al.del l k else (a, x) :: Al.del l k
def Al.set (l : Al) (k : Nat) (x : AV) : Al := (k, x) :: Al.del l k

theorem Al.get_del (l : Al) (k k' : Nat) : (Al.del l k).get k' = if k' = k then none else l.get k' := by
  induction l with
  | nil => simp [Al.del, Al.get]
  | cons a l ih =>
    obtain ⟨a, x⟩ := a
    simp only [Al.del]
    by_cases h : a = k
    · subst h
      simp only [if_true, ih, Al.get]
      by_cases h' : k' = a
      · simp [h']
      · simp [h', Ne.symm h']
    · simp only [h, if_false, Al.get, ih]
      by_cases h' : a = k'
      · subst h'; simp [h]
      · simp [h']

theorem Al.get_set (l : Al) (k k' : Nat) (x : AV) : (Al.set l k x).get k' = if k' = k then some x else l.get k' := by
  simp only [Al.set, Al.get, Al.get_del]
  by_cases h : k' = k
  · simp [h]
  · simp [h, Ne.symm h]

/-- Slots, boxes; may it be written? -/
structure Fr where
  sl : Al
  bx : Al
  rw : Bool

def Fr.root (fr : Fr) : Base → Option AV
  | .sl k => fr.sl.get k
  | .bx t => fr.bx.get t

def rootsOf : List Fr → Rt
  | [] => fun _ _ => none
  | fr :: F => fun f b => if f = F.length then fr.root b else rootsOf F f b

def Fr.set (fr : Fr) (d : Nat) (x : AV) : Fr := { fr with sl := fr.sl.set d x }
def Fr.del (fr : Fr) (d : Nat) : Fr := { fr with sl := fr.sl.del d }
def Fr.setBx (fr : Fr) (t : Nat) (x : AV) : Fr := { fr with bx := fr.bx.set t x }

theorem rootsOf_ge (F : List Fr) (f : Nat) (b : Base) (h : F.length ≤ f) : rootsOf F f b = none := by
  induction F with
  | nil => rfl
  | cons fr F ih =>
    simp only [List.length_cons] at h
    simp only [rootsOf]
    rw [if_neg (by omega)]
    exact ih (by omega)

theorem rootsOf_set (fr : Fr) (F : List Fr) (d : Nat) (x : AV) : rootsOf (fr.set d x :: F) = setRoot (rootsOf (fr :: F)) F.length (.sl d) x := by
  funext f b
  simp only [rootsOf, setRoot]
  by_cases h : f = F.length
  · subst h
    simp only [if_true, true_and]
    cases b with
    | sl k =>
      simp only [Fr.root, Fr.set, Al.get_set, Base.sl.injEq]
    | bx t => simp [Fr.root, Fr.set]
  · simp [h]

theorem rootsOf_setBx (fr : Fr) (F : List Fr) (t : Nat) (x : AV) : rootsOf (fr.setBx t x :: F) = setRoot (rootsOf (fr :: F)) F.length (.bx t) x := by
  funext f b
  simp only [rootsOf, setRoot]
  by_cases h : f = F.length
  · subst h
    simp only [if_true, true_and]
    cases b with
    | bx k => simp only [Fr.root, Fr.setBx, Al.get_set, Base.bx.injEq]
    | sl t => simp [Fr.root, Fr.setBx]
  · simp [h]

/-! Temporary values. -/
def borrow1 (b : Base) (path : List Hop) (j : Nat) (c : AV) : AV :=
  match c with
  | .own es xs => .sl ⟨b, path, j⟩ es 0 xs.length
  | .obj _ => .ptr ⟨b, (j, 0) :: path, 0⟩
  | c => c
def borrowL (b : Base) (path : List Hop) (j : Nat) : List AV → List AV
  | [] => []
  | c :: cs => borrow1 b path j c :: borrowL b path (j + 1) cs
def borrow (b : Base) (path : List Hop) (x : AV) : AV :=
  match x with
  | .agg cs => .agg (borrowL b path 0 cs)
  | .tup sh cs => .tup sh (borrowL b path 0 cs)
  | x => borrow1 b path 0 x

def TupShape : List (Option Nat) → List Value → Prop
  | [], vs => vs = []
  | none :: sh, vs => ∃ v r, vs = v :: r ∧ v.oneCell' = true ∧ TupShape sh r
  | some n :: sh, vs => ∃ arr r, vs = .agg arr :: r ∧ arr.size = n ∧ TupShape sh r
def tupLen : List (Option Nat) → Nat
  | [] => 0
  | none :: sh => tupLen sh + 1
  | some n :: sh => tupLen sh + n

theorem cells_of_one {v : Value} (h : v.oneCell' = true) : v.cells = #[v] := by cases v <;> simp_all [Value.oneCell', Value.cells]
theorem flatV_of_one {v : Value} (h : v.oneCell' = true) : flatV v = [v] := by cases v <;> simp_all [Value.oneCell', flatV]

theorem TupShape.len : ∀ (sh : List (Option Nat)) (vs : List Value), TupShape sh vs → (vs.flatMap fun x => x.cells.toList).length = tupLen sh
  | [], vs, h => by simp [TupShape] at h; subst h; rfl
  | none :: sh, vs, h => by
    obtain ⟨v, r, rfl, h1, h2⟩ := h
    simp [tupLen, cells_of_one h1, ← TupShape.len sh r h2, Nat.add_comm]
  | some n :: sh, vs, h => by
    obtain ⟨arr, r, rfl, h1, h2⟩ := h
    simp only [List.flatMap_cons, List.length_append, tupLen]
    rw [TupShape.len sh r h2, show (Value.agg arr).cells.toList.length = n from by simpa [Value.cells] using h1, Nat.add_comm]

def Shape (x : AV) (u : Value) : Prop :=
  match x with
  | .agg cs => ∃ us : Array Value, u = .agg us ∧ us.size = cs.length
  | .tup sh cs => ∃ vs : Array Value, u = .tuple vs ∧ TupShape sh vs.toList ∧ tupLen sh = cs.length
  | _ => u.oneCell' = true

theorem Shape.len {x : AV} {u : Value} (h : Shape x u) : (flatV u).length = x.cells.length := by
  cases hx : x.one with
  | true =>
    have h' : u.oneCell' = true := by cases x <;> simp_all [Shape, AV.one]
    rw [flatV_of_one h', AV.cells_one hx]; rfl
  | false =>
    cases x <;> simp_all [AV.one]
    · obtain ⟨us, rfl, h⟩ := h; simpa [flatV, AV.cells] using h
    · obtain ⟨vs, rfl, h1, h2⟩ := h
      have := TupShape.len _ _ h1
      simp only [flatV, AV.cells]
      rw [this, h2]

/-- What a temporary value is worth. -/
def VR (w : World) (G : Gh) (R : Rt) (f : Nat) (x : AV) (u : Value) : Prop := Shape x u ∧ (∀ v ∈ flatV u, v.oneCell' = true) ∧ RVs w G R f x.cells (flatV u)

theorem RVs_iff {w : World} {G : Gh} {R : Rt} {f : Nat} : ∀ (cs : List AV) (us : List Value), RVs w G R f cs us ↔ cs.length = us.length ∧ ∀ (j : Nat) (c : AV), cs[j]? = some c → ∃ u, us[j]? = some u ∧ RV w G R f c u
  | [], us => by
    simp only [RVs]
    constructor
    · rintro rfl; simp
    · rintro ⟨h, _⟩; exact List.eq_nil_of_length_eq_zero h.symm
  | c :: cs, us => by
    simp only [RVs]
    constructor
    · rintro ⟨u, r, rfl, h1, h2⟩
      obtain ⟨h3, h4⟩ := (RVs_iff cs r).1 h2
      refine ⟨by simp [h3], ?_⟩
      intro j c' hj
      cases j with
      | zero => simp at hj; subst hj; exact ⟨u, rfl, h1⟩
      | succ j => simp at hj; simpa using h4 j c' hj
    · rintro ⟨h1, h2⟩
      cases us with
      | nil => simp at h1
      | cons u r =>
        refine ⟨u, r, rfl, ?_, (RVs_iff cs r).2 ⟨by simpa using h1, fun j c' hj => by simpa using h2 (j + 1) c' (by simpa using hj)⟩⟩
        obtain ⟨u', hu, hv⟩ := h2 0 c rfl
        simp at hu; subst hu; exact hv

theorem RV_flat {w : World} {G : Gh} {R : Rt} {f : Nat} {c : AV} {u : Value} (h : RV w G R f c u) : c.one = true ∧ c.sh.leaf = true := by
  cases f <;> cases c <;> simp_all [RV, AV.one, AV.sh, Sh.leaf]

theorem VR.flat {w : World} {G : Gh} {R : Rt} {f : Nat} {x : AV} {u : Value} (h : VR w G R f x u) : x.flat := by
  intro c hc
  obtain ⟨j, hj⟩ := List.getElem?_of_mem hc
  obtain ⟨u', _, hv⟩ := ((RVs_iff _ _).1 h.2.2).2 j c hj
  exact RV_flat hv

theorem CS_borrow {w : World} {G : Gh} {R : Rt} {f : Nat} {b : Base} {path : List Hop} {j : Nat} {c : AV} {u : Value} (h : CS w G R f b path j c.sh u) : RV w G R f (borrow1 b path j c) u := by
  cases c <;> simp only [AV.sh, CS, borrow1] at h ⊢
  case v x => simpa [RV] using h
  case junk => simp [RV]
  case own es xs =>
    obtain ⟨h1, h2, cap, h3, h4, h5⟩ := h
    simp only [RV]
    intro n _ _
    exact ⟨_, cap, h3, h4, Or.inr (by simp), h5⟩
  case obj x =>
    obtain ⟨h1, h2, _⟩ := h
    simp only [RV]
    intro r _ _ _
    rw [h2]
    simp [Gh.addr, h1]
  all_goals exact h

theorem borrowL_get (b : Base) (path : List Hop) : ∀ (cs : List AV) (j0 j : Nat), (borrowL b path j0 cs)[j]? = (cs[j]?).map (borrow1 b path (j0 + j))
  | [], j0, j => by simp [borrowL]
  | c :: cs, j0, j => by
    cases j with
    | zero => simp [borrowL]
    | succ j =>
      simp only [borrowL, List.getElem?_cons_succ, borrowL_get b path cs (j0 + 1) j]
      rw [show j0 + 1 + j = j0 + (j + 1) by omega]

theorem borrowL_length (b : Base) (path : List Hop) : ∀ (cs : List AV) (j0 : Nat), (borrowL b path j0 cs).length = cs.length
  | [], j0 => rfl
  | c :: cs, j0 => by simp [borrowL, borrowL_length b path cs (j0 + 1)]

theorem borrow_cells (b : Base) (path : List Hop) (x : AV) : (borrow b path x).cells = borrowL b path 0 x.cells := by
  cases x <;> simp [borrow, AV.cells, borrowL, borrow1]

theorem borrow1_one (b : Base) (path : List Hop) (j : Nat) (c : AV) : (borrow1 b path j c).one = c.one := by cases c <;> rfl

theorem Shape.borrow {b : Base} {path : List Hop} {x : AV} {u : Value} (h : Shape x u) : Shape (borrow b path x) u := by
  cases x <;> simp_all [Shape, Ai.borrow, borrow1, borrowL_length]

/-! The state of a running call. -/
def Clean (R : Rt) : Prop := ∀ f b a path r x, rowOf R f b (a :: path) = some r → .ref x ∉ r

/-- Which frames may be written: those that say so, and those to come. -/
def WrC (G : Gh) (l : List Bool) : Prop := (∀ f, l.length ≤ f → G.wr f = true) ∧ ∀ i, l[i]? = some true → G.wr (l.length - 1 - i) = true
def Wr (G : Gh) (l : List Bool) : Prop := WrC G l ∧ l[0]? = some true
theorem Wr.cong {G G' : Gh} {l : List Bool} (h : Wr G l) (e : G'.wr = G.wr) : Wr G' l := by rw [Wr, WrC, e]; exact h
theorem WrC.cong {G G' : Gh} {l : List Bool} (h : WrC G l) (e : G'.wr = G.wr) : WrC G' l := by rw [WrC, e]; exact h

structure Rel (w : World) (G : Gh) (n : Nat) (a : Act) (fr : Fr) (F : List Fr) : Prop where
  ok : Ok w G (rootsOf (fr :: F))
  tm : ∀ k, G.tm F.length k = a.tmps.getD k undef
  shape : ∀ k x, fr.sl.get k = some x → Shape x (a.tmps.getD k undef) ∧ ∀ v ∈ flatV (a.tmps.getD k undef), v.oneCell' = true
  size : a.tmps.size = n
  wr : Wr G ((fr :: F).map Fr.rw)
  defers : a.defers = []
  clean : Clean (rootsOf (fr :: F))

theorem Rel.wr0 {w : World} {G : Gh} {n : Nat} {a : Act} {fr : Fr} {F : List Fr} (h : Rel w G n a fr F) : G.wr F.length = true := by simpa using h.wr.1.2 0 h.wr.2

inductive Opd where
  | s (k : Nat)
  | c (v : Value)
  | g (f : FuncId)

def Opd.to : Opd → Operand
  | .s k => .tmp k
  | .c v => .const v
  | .g f => .func f

def Fr.ev (fr : Fr) : Opd → Option AV
  | .s k => (fr.sl.get k).map (borrow (.sl k) [])
  | .c v => if v.oneCell' then some (.v v) else none
  | .g f => some (.fn f [])

theorem Rel.ev {w : World} {G : Gh} {n : Nat} {a : Act} {fr : Fr} {F : List Fr} (h : Rel w G n a fr F) {o : Opd} {x : AV} (hx : fr.ev o = some x) : VR w G (rootsOf (fr :: F)) F.length x (a.eval o.to) := by
  cases o with
  | s k =>
    simp only [Fr.ev, Option.map_eq_some_iff] at hx
    obtain ⟨y, hy, rfl⟩ := hx
    obtain ⟨hsh, hone⟩ := h.shape k y hy
    simp only [Opd.to, Act.eval]
    refine ⟨hsh.borrow, hone, (RVs_iff _ _).2 ⟨?_, ?_⟩⟩
    · rw [borrow_cells, borrowL_length, hsh.len]
    · intro j c hc
      rw [borrow_cells, borrowL_get, Option.map_eq_some_iff] at hc
      obtain ⟨c0, hc0, rfl⟩ := hc
      have hrow : rowOf (rootsOf (fr :: F)) F.length (.sl k) [] = some (y.cells.map AV.sh) := by
        simp [rowOf, rootsOf, Fr.root, hy, AV.row, AV.sub]
      obtain ⟨u, hu, hcs⟩ := h.ok.cell _ _ _ _ j c0.sh hrow (by simp [hc0])
      simp only [conc, inMem, Bool.false_eq_true, if_false, h.tm] at hu
      exact ⟨u, hu, by rw [Nat.zero_add]; exact CS_borrow hcs⟩
  | c v =>
    simp only [Fr.ev] at hx
    split at hx
    · rename_i hv
      obtain rfl := Option.some.inj hx
      refine ⟨hv, ?_, ?_⟩ <;> simp only [Opd.to, Act.eval, AV.cells, flatV_of_one hv, RVs]
      · simpa using hv
      exact ⟨v, [], rfl, by simp [RV], rfl⟩
    · simp at hx
  | g f =>
    simp only [Fr.ev, Option.some.injEq] at hx
    subst hx
    refine ⟨rfl, ?_, ?_⟩ <;> simp only [Opd.to, Act.eval, AV.cells, flatV, RVs]
    · simp [Value.oneCell']
    refine ⟨_, [], rfl, ?_, rfl⟩
    simp [RV, RVs]

theorem getD_put (a : Act) (d k : Nat) (v : Value) (h : d < a.tmps.size) : (a.put (some d) v).tmps.getD k undef = if k = d then v else a.tmps.getD k undef := by
  simp only [Act.put, Array.getD_eq_getD_getElem?, Array.getElem?_setIfInBounds]
  by_cases hk : k = d
  · subst hk; simp [h]
  · simp [hk, Ne.symm hk]

theorem Clean.setRoot {R : Rt} (h : Clean R) {f : Nat} {b : Base} {x : AV} (hx : x.flat) : Clean (setRoot R f b x) := by
  intro f' b' a path r y hr
  rcases rowOf_setRoot_flat hx hr with ⟨_, _, e, _⟩ | ⟨_, h2⟩
  · simp at e
  · exact h _ _ _ _ _ _ h2

/-- A slot is set to a value that owns nothing. -/
theorem Rel.set {w : World} {G : Gh} {n : Nat} {a : Act} {fr : Fr} {F : List Fr} (h : Rel w G n a fr F) {d : Nat} (hd : d < n) {x : AV} {v : Value} (hv : VR w G (rootsOf (fr :: F)) F.length x v) :
    Rel w (G.setTm F.length d v) n (a.put (some d) v) (fr.set d x) F := by
  have hflat := hv.flat
  refine ⟨?_, ?_, ?_, ?_, h.wr, h.defers, ?_⟩
  · rw [rootsOf_set]
    exact h.ok.slot F.length d hflat (fun j c hc => by
      obtain ⟨u, hu, hr⟩ := ((RVs_iff _ _).1 hv.2.2).2 j c hc
      exact ⟨u, hu, hv.2.1 _ (List.mem_of_getElem? hu), hr⟩)
  · intro k
    rw [getD_put _ _ _ _ (by rw [h.size]; exact hd)]
    simp only [Gh.setTm, true_and, h.tm]
  · intro k y hy
    rw [getD_put _ _ _ _ (by rw [h.size]; exact hd)]
    simp only [Fr.set, Al.get_set] at hy
    by_cases hk : k = d
    · subst hk; simp only [if_true] at hy ⊢; obtain rfl := Option.some.inj hy; exact ⟨hv.1, hv.2.1⟩
    · simp only [hk, if_false] at hy ⊢; exact h.shape k y hy
  · simp [Act.put, h.size]
  · rw [rootsOf_set]; exact h.clean.setRoot hflat

theorem Weak.refl (R : Rt) : Weak R R := fun _ _ _ r h => ⟨r, h, rfl, fun _ _ h => Or.inr h⟩

theorem Weak.clean {R R' : Rt} (h : Weak R' R) (hc : Clean R) : Clean R' := by
  intro f b a path r x hr hm
  obtain ⟨r0, hr0, _, h2⟩ := h _ _ _ _ hr
  obtain ⟨j, hj⟩ := List.getElem?_of_mem hm
  rcases h2 j _ hj with h3 | h3
  · simp at h3
  · exact hc _ _ _ _ _ _ hr0 (List.mem_of_getElem? h3)

/-- Roots that were left out. -/
theorem Weak.roots {R R' : Rt} (h : ∀ f b, R' f b = none ∨ R' f b = R f b) : Weak R' R := by
  intro f b path r' hr
  rcases h f b with h1 | h1
  · simp [rowOf, h1] at hr
  · exact ⟨r', by simpa [rowOf, h1] using hr, rfl, fun _ _ h => Or.inr h⟩

theorem Weak.del (fr : Fr) (F : List Fr) (d : Nat) : Weak (rootsOf (fr.del d :: F)) (rootsOf (fr :: F)) := by
  refine Weak.roots fun f b => ?_
  simp only [rootsOf]
  split
  · cases b with
    | sl k =>
      simp only [Fr.root, Fr.del, Al.get_del]
      by_cases hk : k = d <;> simp [hk]
    | bx t => exact Or.inr rfl
  · exact Or.inr rfl

def Fr.unset (fr : Fr) : Option Nat → Fr
  | some d => fr.del d
  | none => fr
def Gh.setTm? (G : Gh) (f : Nat) (dst : Option Nat) (v : Value) : Gh :=
  match dst with
  | some d => { G with tm := fun f' k' => if f' = f ∧ k' = d then v else G.tm f' k' }
  | none => G

/-- A slot gets a value of which nothing is known. -/
theorem Rel.unset {w : World} {G : Gh} {n : Nat} {a : Act} {fr : Fr} {F : List Fr} (h : Rel w G n a fr F) (dst : Option Tmp) (hd : ∀ d, dst = some d → d < n) (v : Value) :
    Rel w (G.setTm? F.length dst v) n (a.put dst v) (fr.unset dst) F := by
  cases dst with
  | none => exact h
  | some d =>
    show Rel w (G.setTm F.length d v) n (a.put (some d) v) (fr.del d) F
    have hw := Weak.del fr F d
    have ok' := h.ok.weaken hw
    refine ⟨?_, ?_, ?_, by simp [Act.put, h.size], h.wr, h.defers, hw.clean h.clean⟩
    · -- the slot is no root any more
      have hone : AV.junk.flat := by intro c hc; simp [AV.cells] at hc; subst hc; exact ⟨rfl, rfl⟩
      have := (ok'.slot F.length d (x := .agg []) (v := v) (by intro c hc; simp [AV.cells] at hc) (by intro j c hc; simp [AV.cells] at hc))
      refine this.weaken (Weak.roots fun f b => ?_)
      simp only [setRoot]
      split
      · rename_i he
        left
        simp only [rootsOf, he.1, if_true, he.2, Fr.root, Fr.del, Al.get_del]
      · exact Or.inr rfl
    · intro k
      rw [getD_put _ _ _ _ (by rw [h.size]; exact hd d rfl)]
      simp only [Gh.setTm, true_and, h.tm]
    · intro k y hy
      simp only [Fr.del, Al.get_del] at hy
      rw [getD_put _ _ _ _ (by rw [h.size]; exact hd d rfl)]
      by_cases hk : k = d
      · simp [hk] at hy
      · simp only [hk, if_false] at hy ⊢; exact h.shape k y hy

end Go.Proofs.Ythlehngbadianaa.Ai
/- Operations that compute a value which owns nothing: what they are worth. -/
set_option linter.unusedVariables false
namespace Go.Proofs.Ythlehngbadianaa.Ai
open Go Go.RowKit

def liftN : Nat → AV → AV
  | 0, x => x
  | k + 1, x => match x with
    | .v y => .v y
    | .junk => .junk
    | x => .up (liftN k x)

/-- What an address leads to: the node, the place, how many frames out. -/
def deref : List Fr → AV → Option (AV × Pl × Nat)
  | fr :: F, .ptr p => if inMem p.base p.path then ((fr.root p.base).bind fun x => x.sub p.path).map fun y => (y, p, 0) else none
  | _ :: F, .up x => (deref F x).map fun r => (r.1, r.2.1, r.2.2 + 1)
  | _, _ => none

/-- What a slice leads to: the elements, the place of the cell that owns them, how many frames out. -/
def slcell : List Fr → AV → Option (List AV × Pl × Nat × Nat × Nat × Nat)
  | fr :: F, .sl p es off len =>
    match (fr.root p.base).bind fun x => x.cellIn p.path p.j with
    | some (.own es' xs) => if es' = es ∧ off + len ≤ xs.length then some (xs, p, es, off, len, 0) else none
    | _ => none
  | _ :: F, .up x => (slcell F x).map fun r => (r.1, r.2.1, r.2.2.1, r.2.2.2.1, r.2.2.2.2.1, r.2.2.2.2.2 + 1)
  | _, _ => none

def isNilSl : Value → Bool
  | .slice none 0 0 => true
  | _ => false
theorem isNilSl_eq {y : Value} (h : isNilSl y = true) : y = .slice none 0 0 := by
  unfold isNilSl at h
  split at h
  · rfl
  · simp at h
def nilsl : AV → Bool
  | .v y => isNilSl y
  | .up x => nilsl x
  | _ => false

/-- The elements that a slice shows, es cells each. -/
def rdS (es : Nat) (S : List Fr) (x : AV) : Option (List AV) :=
  if nilsl x then some [] else
  match slcell S x with
  | some (xs, _, es', off, len, _) => if es' = es then some ((xs.drop off).take len) else none
  | none => none

def upN : Nat → AV → AV
  | 0, x => x
  | k + 1, x => .up (upN k x)

theorem deref_sound {w : World} {G : Gh} : ∀ (S : List Fr) (x y : AV) (p : Pl) (k : Nat) (u : Value) (f : Nat), f + 1 = S.length → Ok w G (rootsOf S) → deref S x = some (y, p, k) → RV w G (rootsOf S) f x u →
    k ≤ f ∧ x = upN k (.ptr p) ∧ inMem p.base p.path = true ∧ rowOf (rootsOf S) (f - k) p.base p.path = some (y.cells.map AV.sh) ∧ (rootsOf S (f - k) p.base).bind (fun z => z.sub p.path) = some y ∧
    (p.j < y.cells.length → u = .pointer (some ⟨(G.addr (f - k) p.base p.path).1, (G.addr (f - k) p.base p.path).2 + p.j, none⟩)) := by
  intro S
  induction S with
  | nil => intro x y p k u f hf _ hd; simp at hf
  | cons fr F ih =>
    intro x y p k u f hf ok hd hv
    have hff : f = F.length := by simpa using hf
    subst hff
    cases x <;> simp only [deref] at hd
    case ptr q =>
      split at hd
      · rename_i hm
        simp only [Option.map_eq_some_iff, Prod.mk.injEq] at hd
        obtain ⟨y', hy', rfl, rfl, rfl⟩ := hd
        have hr : rowOf (rootsOf (fr :: F)) F.length q.base q.path = some (y'.cells.map AV.sh) := by
          simp only [rowOf, rootsOf, if_true, AV.row]
          rw [Option.bind_eq_some_iff] at hy' ⊢
          obtain ⟨z, hz, hz2⟩ := hy'
          exact ⟨z, hz, by rw [hz2]; rfl⟩
        refine ⟨Nat.zero_le _, rfl, hm, hr, by simpa [rootsOf] using hy', ?_⟩
        intro hj
        simp only [RV] at hv
        exact hv _ hr hm (by simpa using hj)
      · simp at hd
    case up z =>
      simp only [Option.map_eq_some_iff, Prod.mk.injEq] at hd
      obtain ⟨⟨y', p', k'⟩, hd', rfl, rfl, rfl⟩ := hd
      cases F with
      | nil => simp [deref] at hd'
      | cons fr2 F =>
        simp only [List.length_cons, RV] at hv
        -- the inner frames see what the outer ones see
        have hroots : ∀ f b, f < F.length + 1 → rootsOf (fr :: fr2 :: F) f b = rootsOf (fr2 :: F) f b := by
          intro f b hf
          show (if f = (fr2 :: F).length then fr.root b else rootsOf (fr2 :: F) f b) = _
          rw [if_neg (by simp; omega)]
        have ok' : Ok w G (rootsOf (fr2 :: F)) := ok.weaken (Weak.roots fun f b => by
          by_cases h : f < F.length + 1
          · right; exact (hroots f b h).symm
          · left; exact rootsOf_ge _ _ _ (by simp; omega))
        have hle : Le (rootsOf (fr2 :: F)) (rootsOf (fr :: fr2 :: F)) := (Weak.roots (R' := rootsOf (fr2 :: F)) (R := rootsOf (fr :: fr2 :: F)) fun f b => by
          by_cases h : f < F.length + 1
          · right; exact (hroots f b h).symm
          · left; exact rootsOf_ge _ _ _ (by simp; omega)).le
        obtain ⟨h1, h2, h3, h4, h5, h6⟩ := ih z y' p' k' u F.length (by simp) ok' hd' (RV.le (Wle.refl w) hle _ _ _ hv)
        have e : (fr2 :: F).length - (k' + 1) = F.length - k' := by simp
        have hlt : F.length - k' < F.length + 1 := by omega
        rw [e]
        refine ⟨by simp; omega, by simp only [upN, h2], h3, ?_, ?_, h6⟩
        · simp only [rowOf, hroots _ _ hlt] at h4 ⊢; exact h4
        · rw [hroots _ _ hlt]; exact h5
    all_goals simp at hd

theorem slcell_sound {w : World} {G : Gh} : ∀ (S : List Fr) (x : AV) (xs : List AV) (p : Pl) (es off len k : Nat) (u : Value) (f : Nat), f + 1 = S.length → Ok w G (rootsOf S) → slcell S x = some (xs, p, es, off, len, k) →
    RV w G (rootsOf S) f x u →
    k ≤ f ∧ x = upN k (.sl p es off len) ∧ cellOf (rootsOf S) (f - k) p = some (.own es xs.length) ∧ (rootsOf S (f - k) p.base).bind (fun z => z.cellIn p.path p.j) = some (.own es xs) ∧ off + len ≤ xs.length ∧
    ∃ ao cap, u = .slice (some ⟨(G.h (f - k) p.base p.path p.j).1, ao, none⟩) len cap ∧ len ≤ cap ∧ (cap = 0 ∨ ao = (G.h (f - k) p.base p.path p.j).2.1 + off * es) ∧
      blockOk w (G.wr (f - k)) (G.h (f - k) p.base p.path p.j).1 (ao + cap * es) := by
  intro S
  induction S with
  | nil => intro x xs p es off len k u f hf _ hd; simp at hf
  | cons fr F ih =>
    intro x xs p es off len k u f hf ok hd hv
    have hff : f = F.length := by simpa using hf
    subst hff
    cases x <;> simp only [slcell] at hd
    case sl q es' off' len' =>
      split at hd
      · rename_i es2 xs2 hc
        split at hd
        · rename_i hle
          simp only [Option.some.injEq, Prod.mk.injEq] at hd
          obtain ⟨rfl, rfl, rfl, rfl, rfl, rfl⟩ := hd
          obtain ⟨rfl, hle⟩ := hle
          have hcell : cellOf (rootsOf (fr :: F)) F.length q = some (.own es2 xs2.length) := by
            simp only [cellOf, rowOf, rootsOf, if_true, AV.row]
            rw [Option.bind_eq_some_iff] at hc
            obtain ⟨z, hz, hz2⟩ := hc
            simp only [AV.cellIn, Option.bind_eq_some_iff] at hz2
            obtain ⟨y, hy, hy2⟩ := hz2
            simp [hz, hy, hy2, AV.sh]
          simp only [RV] at hv
          exact ⟨Nat.zero_le _, rfl, hcell, by simpa [rootsOf] using hc, hle, hv _ hcell hle⟩
        · simp at hd
      · simp at hd
    case up z =>
      simp only [Option.map_eq_some_iff, Prod.mk.injEq] at hd
      obtain ⟨⟨xs', p', es', off', len', k'⟩, hd', rfl, rfl, rfl, rfl, rfl, rfl⟩ := hd
      cases F with
      | nil => simp [slcell] at hd'
      | cons fr2 F =>
        simp only [List.length_cons, RV] at hv
        have hroots : ∀ f b, f < F.length + 1 → rootsOf (fr :: fr2 :: F) f b = rootsOf (fr2 :: F) f b := by
          intro f b hf
          show (if f = (fr2 :: F).length then fr.root b else rootsOf (fr2 :: F) f b) = _
          rw [if_neg (by simp; omega)]
        have hweak : Weak (rootsOf (fr2 :: F)) (rootsOf (fr :: fr2 :: F)) := Weak.roots fun f b => by
          by_cases h : f < F.length + 1
          · right; exact (hroots f b h).symm
          · left; exact rootsOf_ge _ _ _ (by simp; omega)
        obtain ⟨h1, h2, h3, h4, h5, h6⟩ := ih z xs' p' es' off' len' k' u F.length (by simp) (ok.weaken hweak) hd' (RV.le (Wle.refl w) hweak.le _ _ _ hv)
        have e : (fr2 :: F).length - (k' + 1) = F.length - k' := by simp
        have hlt : F.length - k' < F.length + 1 := by omega
        rw [e]
        refine ⟨by simp; omega, by simp only [upN, h2], ?_, ?_, h5, h6⟩
        · simp only [cellOf, rowOf, hroots _ _ hlt] at h3 ⊢; exact h3
        · rw [hroots _ _ hlt]; exact h4
    all_goals simp at hd

theorem nilsl_sound {w : World} {G : Gh} {R : Rt} : ∀ (f : Nat) (x : AV) (u : Value), nilsl x = true → RV w G R f x u → u = .slice none 0 0
  | f, .v y, u, h, hv => by
    have hy : y = .slice none 0 0 := isNilSl_eq (by simpa [nilsl] using h)
    cases f <;> (simp only [RV] at hv; rw [hv, hy])
  | 0, .up x, u, h, hv => by simp [RV] at hv
  | f + 1, .up x, u, h, hv => by
    simp only [nilsl] at h
    simp only [RV] at hv
    exact nilsl_sound f x u h hv
  | f, .junk, u, h, hv => by simp [nilsl] at h
  | f, .agg _, u, h, hv => by simp [nilsl] at h
  | f, .tup _ _, u, h, hv => by simp [nilsl] at h
  | f, .own _ _, u, h, hv => by simp [nilsl] at h
  | f, .obj _, u, h, hv => by simp [nilsl] at h
  | f, .sl .., u, h, hv => by simp [nilsl] at h
  | f, .sa .., u, h, hv => by simp [nilsl] at h
  | f, .ptr _, u, h, hv => by simp [nilsl] at h
  | f, .fn _ _, u, h, hv => by simp [nilsl] at h
  | f, .lapp .., u, h, hv => by simp [nilsl] at h

theorem RV_upN {w : World} {G : Gh} {R : Rt} : ∀ (k f : Nat) (x : AV) (u : Value), k ≤ f → (RV w G R f (upN k x) u ↔ RV w G R (f - k) x u)
  | 0, f, x, u, _ => by simp [upN]
  | k + 1, 0, x, u, h => by omega
  | k + 1, f + 1, x, u, h => by
    simp only [upN, RV]
    rw [RV_upN k f x u (by omega), show f + 1 - (k + 1) = f - k by omega]

theorem RV_liftN {w : World} {G : Gh} {R : Rt} : ∀ (k f : Nat) (x : AV) (u : Value), k ≤ f → RV w G R (f - k) x u → RV w G R f (liftN k x) u
  | 0, f, x, u, _, h => by simpa [liftN] using h
  | k + 1, 0, x, u, hk, h => by omega
  | k + 1, f + 1, x, u, hk, h => by
    have ih := RV_liftN k f x u (by omega) (by rwa [show f + 1 - (k + 1) = f - k by omega] at h)
    have hfl := RV_flat h
    cases x <;> simp only [liftN]
    case v y => cases h' : f + 1 - (k + 1) <;> rw [h'] at h <;> simpa [RV] using h
    case junk => simp [RV]
    all_goals first
      | (simp only [RV]; exact ih)

end Go.Proofs.Ythlehngbadianaa.Ai
/- Value operations: how they are compiled, what they give, and that they give it. -/
set_option linter.unusedVariables false
set_option linter.unusedSimpArgs false
namespace Go.Proofs.Ythlehngbadianaa.Ai
open Go Go.RowKit

def opd : Operand → Option Opd
  | .tmp t => some (.s t)
  | .const v => some (.c v)
  | .func f => some (.g f)
  | .global _ => none

theorem opd_to {x : Operand} {o : Opd} (h : opd x = some o) : o.to = x := by
  cases x <;> simp [opd] at h <;> subst h <;> rfl

inductive VE where
  | mv (x : Opd)
  | pick (c a b : Opd)
  | bin (op : BinOp) (x y : Opd)
  | un (op : UnOp) (x : Opd)
  | cvi (k : IntKind) (x : Opd)
  | fa (x : Opd) (off : Nat)
  | ia (x i : Opd) (es : Nat)
  | iaa (x i : Opd) (n es : Nat)
  | is (x i : Opd)
  | ld (x : Opd) (n : Option Nat)
  | ss (x : Opd) (lo hi : Option Opd)
  | sl (x : Opd) (lo hi mx : Option Opd) (es : Nat)
  | sla (x : Opd) (lo hi mx : Option Opd) (n es : Nat)
  | lns (x : Opd)
  | lnl (x : Opd) (es : Nat)
  | cst (v : Value)
  | ext (x : Opd) (i : Nat)
  | fv (x : Opd) (off : Nat) (n : Option Nat)
  | nc (x : Opd)
  | fnv (f : FuncId) (caps : List Opd)
  | eqb (ng : Bool) (x y : Opd)
  | eqp (ng : Bool) (x y : Opd)
  | eqs (ng : Bool) (x y : Opd)
  | mn (x y : Opd)
  | mx (x y : Opd)
  | bld (z : List Value) (ps : List (Nat × Nat × Opd))

/-! The pure part: on plain values. -/
def intBin (op : BinOp) (k : IntKind) (a b : Int) : Option Value :=
  match op with
  | .add => some (.int k (k.wrap (a + b)))
  | .sub => some (.int k (k.wrap (a - b)))
  | .mul => some (.int k (k.wrap (a * b)))
  | .quo => if b = 0 then none else some (.int k (k.wrap (a.tdiv b)))
  | .rem => if b = 0 then none else some (.int k (a.tmod b))
  | .and => some (.int k (k.wrap (BitVec.ofInt k.bits a &&& BitVec.ofInt k.bits b).toNat))
  | .or => some (.int k (k.wrap (BitVec.ofInt k.bits a ||| BitVec.ofInt k.bits b).toNat))
  | .xor => some (.int k (k.wrap (BitVec.ofInt k.bits a ^^^ BitVec.ofInt k.bits b).toNat))
  | .andNot => some (.int k (k.wrap (BitVec.ofInt k.bits a &&& ~~~ BitVec.ofInt k.bits b).toNat))
  | .eql => some (.bool (a == b))
  | .neq => some (.bool (a != b))
  | .lss => some (.bool (decide (a < b)))
  | .leq => some (.bool (decide (a ≤ b)))
  | .gtr => some (.bool (decide (a > b)))
  | .geq => some (.bool (decide (a ≥ b)))
  | .shl => none
  | .shr => none
def intShift (op : BinOp) (k : IntKind) (a b : Int) : Option Value :=
  if b < 0 then none else
  match op with
  | .shl => some (.int k (k.wrap (a * 2 ^ (min b.toNat k.bits))))
  | .shr => some (.int k (a.fdiv (2 ^ (min b.toNat k.bits))))
  | _ => none
def strBin (op : BinOp) (a b : ByteArray) : Option Value :=
  match op with
  | .add => if ((a.size + b.size : Nat) : Int) > IntKind.i64.max then none else some (.string (a ++ b))
  | .eql => some (.bool (a.toList == b.toList))
  | .neq => some (.bool (!(a.toList == b.toList)))
  | .lss => some (.bool (Op.bytesLess a.toList b.toList))
  | .leq => some (.bool (Op.bytesLess a.toList b.toList || a.toList == b.toList))
  | .gtr => some (.bool (!(Op.bytesLess a.toList b.toList || a.toList == b.toList)))
  | .geq => some (.bool (!Op.bytesLess a.toList b.toList))
  | _ => none
def binV (op : BinOp) : Value → Value → Option Value
  | .int k a, .int k' b =>
    match op with
    | .shl => intShift .shl k a b
    | .shr => intShift .shr k a b
    | op => if k = k' then intBin op k a b else none
  | .string a, .string b => strBin op a b
  | _, _ => none
def unV (op : UnOp) : Value → Option Value
  | .int k n =>
    match op with
    | .neg => some (.int k (k.wrap (0 - n)))
    | .xor => some (.int k (k.wrap (BitVec.ofInt k.bits (if k.signed then -1 else k.max) ^^^ BitVec.ofInt k.bits n).toNat))
    | _ => none
  | .bool b => match op with
    | .not => some (.bool (!b))
    | _ => none
  | _ => none

theorem run_binV {P : Program} {w : World} {op : BinOp} {t : TypeId} {x y v : Value} (h : binV op x y = some v) : (binOp op t x y).run P w = .ok v w := by
  cases x <;> cases y <;> simp only [binV] at h
  case int.int k a k' b =>
    cases op <;> simp only [intShift, intBin] at h
    case shl =>
      split at h
      · simp at h
      · rename_i hb
        simp only [Option.some.injEq] at h
        subst h
        simp only [binOp, Op.shift, hb, if_false, Sem.run_pure]
    case shr =>
      split at h
      · simp at h
      · rename_i hb
        simp only [Option.some.injEq] at h
        subst h
        simp only [binOp, Op.shift, hb, if_false, Sem.run_pure]
    all_goals
      split at h
      · rename_i hk
        subst hk
        first
          | (simp only [Option.some.injEq] at h; subst h; simp [binOp, Op.intArith, Op.intBits, Op.intCmp]; done)
          | (split at h <;> simp_all [binOp, Op.intDiv]; done)
      · simp at h
  case string.string a b =>
    cases op <;> simp only [strBin] at h
    case add => split at h <;> simp_all [binOp, Op.stringOp]
    all_goals first
      | (simp only [Option.some.injEq] at h; subst h; simp [binOp, Op.stringOp]; done)
      | simp at h
  all_goals simp at h

theorem run_unV {P : Program} {w : World} {op : UnOp} {x v : Value} (h : unV op x = some v) : (Op.unary op x).run P w = .ok v w := by
  cases x <;> cases op <;> simp only [unV, Option.some.injEq] at h <;> first
    | (subst h; simp [Op.unary, Op.intArith, Op.intBits]; done)
    | simp at h

theorem run_eqGuard_plain {P : Program} {w : World} {op : BinOp} {t : TypeId} {x y : Operand} {a b : Value} (ha : a.oneCell' = true) (hn : a ≠ .nilIface) : (eqGuard op t x y a b).run P w = .ok () w := by
  unfold eqGuard
  cases a <;> simp_all [Value.oneCell'] <;> (split <;> rfl)


/-! What is given. -/
def okBounds (n : Nat) (lo hi mx : Option Int) : Option (Nat × Nat × Nat) :=
  let m := mx.getD n
  let h := hi.getD n
  let l := lo.getD 0
  if 0 ≤ l ∧ l ≤ h ∧ h ≤ m ∧ m ≤ n then some (l.toNat, h.toNat, m.toNat) else none

def Fr.int (fr : Fr) (x : Opd) : Option Int :=
  match fr.ev x with
  | some (.v (.int _ n)) => some n
  | _ => none
def Fr.int? (fr : Fr) : Option Opd → Option (Option Int)
  | none => some none
  | some x => (fr.int x).map some
def Fr.str (fr : Fr) (x : Opd) : Option ByteArray :=
  match fr.ev x with
  | some (.v (.string s)) => some s
  | _ => none

def addrOff : AV → Nat → AV
  | .ptr p, n => .ptr { p with j := p.j + n }
  | .up x, n => .up (addrOff x n)
  | x, _ => x
def slOff : AV → Nat → Nat → AV
  | .sl p es off _, l, n => .sl p es (off + l) n
  | .up x, l, n => .up (slOff x l n)
  | x, _, _ => x
def slElem : AV → Nat → AV
  | .sl p _ off _, i => .ptr ⟨p.base, (p.j, off + i) :: p.path, 0⟩
  | .up x, i => .up (slElem x i)
  | x, _ => x
def arrSl : AV → Nat → Nat → Nat → Nat → AV
  | .ptr p, es, l, n, c => .sa { p with j := p.j + l * es } es n c
  | .up x, es, l, n, c => .up (arrSl x es l n c)
  | x, _, _, _, _ => x

/-- The cells from a place on, as they are when they are loaded. -/
def loaded (k : Nat) (p : Pl) (cs : List AV) : List AV := (borrowL p.base p.path p.j cs).map (liftN k)

def isNilP : Value → Bool
  | .pointer none => true
  | _ => false
/-- Is a pointer nil? -/
def ptrNil (S : List Fr) (x : AV) : Option Bool :=
  match x with
  | .v y => if isNilP y = true then some true else none
  | x => match deref S x with
    | some (z, p, _) => if p.j < z.cells.length then some false else none
    | none => none
/-- Is a slice nil? -/
def slNil (S : List Fr) (x : AV) : Option Bool :=
  if nilsl x = true then some true else match slcell S x with
  | some _ => some false
  | none => none
def eqNil : Bool → Option Bool → Option Bool → Option AV
  | ng, some true, some b => some (.v (.bool (b != ng)))
  | ng, some false, some true => some (.v (.bool ng))
  | _, _, _ => none
def ntup : AV → Bool
  | .tup _ _ => false
  | _ => true
def splice {α : Type} (cs : List α) (off : Nat) (ys : List α) : List α := cs.take off ++ (ys ++ cs.drop (off + ys.length))
def fillA (fr : Fr) : List AV → List (Nat × Nat × Opd) → Option (List AV)
  | cs, [] => some cs
  | cs, (off, sz, x) :: r => match fr.ev x with
    | some y => if ntup y = true ∧ y.cells.length = sz ∧ off + sz ≤ cs.length then fillA fr (splice cs off y.cells) r else none
    | none => none

def veval (e : VE) (fr : Fr) (F : List Fr) : Option AV :=
  match e with
  | .mv x => fr.ev x
  | .pick c a b =>
    match fr.ev c with
    | some (.v (.bool t)) => if t then fr.ev a else fr.ev b
    | _ => none
  | .bin op x y =>
    match fr.ev x, fr.ev y with
    | some (.v a), some (.v b) => (binV op a b).map .v
    | _, _ => none
  | .un op x =>
    match fr.ev x with
    | some (.v a) => (unV op a).map .v
    | _ => none
  | .cvi k x => (fr.int x).map fun n => .v (.int k (k.wrap n))
  | .fa x off =>
    match fr.ev x with
    | some y => match deref (fr :: F) y with
      | some (z, p, _) => if p.j < z.cells.length then some (addrOff y off) else none
      | none => none
    | none => none
  | .ia x i es =>
    match fr.ev x, fr.int i with
    | some y, some n => match rdS es (fr :: F) y with
      | some xs => if 0 ≤ n ∧ n < xs.length then some (slElem y n.toNat) else none
      | none => none
    | _, _ => none
  | .iaa x i len es =>
    match fr.ev x, fr.int i with
    | some y, some n => match deref (fr :: F) y with
      | some (z, p, _) => if 0 ≤ n ∧ n < len ∧ p.j < z.cells.length then some (addrOff y (n.toNat * es)) else none
      | none => none
    | _, _ => none
  | .is x i =>
    match fr.str x, fr.int i with
    | some s, some n => if 0 ≤ n ∧ n < s.size then some (.v (.int .u8 ((s[n.toNat]?).getD 0).toNat)) else none
    | _, _ => none
  | .ld x n =>
    match fr.ev x with
    | some y => match deref (fr :: F) y with
      | some (z, p, k) =>
        match n with
        | none => match z.cells[p.j]? with
          | some c => some (liftN k (borrow1 p.base p.path p.j c))
          | none => none
        | some m => if p.j + m ≤ z.cells.length then some (.agg (loaded k p ((z.cells.drop p.j).take m))) else none
      | none => none
    | none => none
  | .ss x lo hi =>
    match fr.str x, fr.int? lo, fr.int? hi with
    | some s, some l, some h => (okBounds s.size l h none).map fun b => .v (.string (s.extract b.1 b.2.1))
    | _, _, _ => none
  | .sl x lo hi mx es =>
    match fr.ev x, fr.int? lo, fr.int? hi, fr.int? mx with
    | some y, some l, some h, some m => match rdS es (fr :: F) y with
      | some xs => (okBounds xs.length l h m).map fun b => slOff y b.1 (b.2.1 - b.1)
      | none => none
    | _, _, _, _ => none
  | .sla x lo hi mx n es =>
    match fr.ev x, fr.int? lo, fr.int? hi, fr.int? mx with
    | some y, some l, some h, some m => match deref (fr :: F) y with
      | some (z, p, _) => if p.j < z.cells.length ∧ p.j + n * es ≤ z.cells.length then (okBounds n l h m).map fun b => arrSl y es b.1 (b.2.1 - b.1) (b.2.2 - b.1) else none
      | none => none
    | _, _, _, _ => none
  | .lns x => (fr.str x).map fun s => .v (.int .i64 s.size)
  | .lnl x es =>
    match fr.ev x with
    | some y => (rdS es (fr :: F) y).map fun r => .v (.int .i64 r.length)
    | none => none
  | .cst v => if v.oneCell' then some (.v v) else none
  | .ext x i =>
    match fr.ev x with
    | some (.tup sh cs) => match sh[i]? with
      | some none => cs[tupLen (sh.take i)]?
      | some (some n) => some (.agg ((cs.drop (tupLen (sh.take i))).take n))
      | none => none
    | _ => none
  | .fv x off n =>
    match fr.ev x with
    | some (.agg cs) => match n with
      | none => cs[off]?
      | some m => if off + m ≤ cs.length then some (.agg ((cs.drop off).take m)) else none
    | _ => none
  | .nc x =>
    match fr.ev x with
    | some y => match deref (fr :: F) y with
      | some (z, p, _) => if p.j < z.cells.length then some y else none
      | none => none
    | none => none
  | .fnv f caps => (caps.mapM fr.ev).bind fun cs => if cs.all AV.one then some (.fn f cs) else none
  | .eqb ng x y =>
    match fr.ev x, fr.ev y with
    | some (.v (.bool a)), some (.v (.bool b)) => some (.v (.bool ((a == b) != ng)))
    | _, _ => none
  | .eqp ng x y =>
    match fr.ev x, fr.ev y with
    | some a, some b => eqNil ng (ptrNil (fr :: F) a) (ptrNil (fr :: F) b)
    | _, _ => none
  | .eqs ng x y =>
    match fr.ev x, fr.ev y with
    | some a, some b => eqNil ng (slNil (fr :: F) a) (slNil (fr :: F) b)
    | _, _ => none
  | .mn x y =>
    match fr.ev x, fr.ev y with
    | some (.v (.int k a)), some (.v (.int _ b)) => some (.v (.int k (if b < a then b else a)))
    | _, _ => none
  | .mx x y =>
    match fr.ev x, fr.ev y with
    | some (.v (.int k a)), some (.v (.int _ b)) => some (.v (.int k (if b > a then b else a)))
    | _, _ => none
  | .bld z ps => (fillA fr (z.map .v) ps).map .agg

end Go.Proofs.Ythlehngbadianaa.Ai
/- The value operations give what they are said to give. -/
set_option linter.unusedVariables false
set_option linter.unusedSimpArgs false
namespace Go.Proofs.Ythlehngbadianaa.Ai
open Go Go.RowKit

def isAggD : TypeDesc → Bool
  | .struct _ => true
  | .array _ _ => true
  | _ => false

def sizeT (P : Program) (t : TypeId) : Option Nat := (P.info? t).map (·.size)
/-- How a variable of a type is loaded: so many cells at once, or one cell. -/
def loadT (P : Program) (t : TypeId) : Option (Option Nat) :=
  match P.underlying t with
  | some d => if isAggD d then (sizeT P t).bind fun n => if n = 0 then none else some (some n) else some none
  | none => none

theorem run_sizeOf {P : Program} {w : World} {t : TypeId} {n : Nat} (h : sizeT P t = some n) : (Go.sizeOf t).run P w = .ok n w := by
  simp only [sizeT, Option.map_eq_some_iff] at h
  obtain ⟨i, hi, rfl⟩ := h
  simp [Go.sizeOf, typeInfo, hi]

theorem run_isAgg {P : Program} {w : World} {t : TypeId} {d : TypeDesc} (h : P.underlying t = some d) : (isAgg t).run P w = .ok (isAggD d) w := by
  simp only [isAgg, Sem.run_bind, run_underlying h, Result.andThen_ok]
  cases d <;> rfl

def eqK (P : Program) (op : BinOp) (t : TypeId) : Opd → Opd → VE :=
  match op, P.underlying t with
  | .eql, some .bool => .eqb false
  | .neq, some .bool => .eqb true
  | .eql, some (.pointer _) => .eqp false
  | .neq, some (.pointer _) => .eqp true
  | .eql, some (.slice _) => .eqs false
  | .neq, some (.slice _) => .eqs true
  | op, _ => .bin op
def partPl (P : Program) (t : TypeId) : Option (List Value × (Nat → Option (Nat × Nat))) :=
  match P.info? t, P.underlying t with
  | some it, some (.array _ e) =>
    match it.zero, P.info? e with
    | some z, some ie => some (z.cells.toList, fun i => some (i * ie.size, ie.size))
    | _, _ => none
  | some it, some (.struct fields) =>
    match it.zero, fields.toList.mapM (fun f => (P.info? f.type).map fun i => (f.offset, i.size)) with
    | some z, some places => some (z.cells.toList, fun i => places.toArray[i]?)
    | _, _ => none
  | _, _ => none
def compParts (pl : Nat → Option (Nat × Nat)) : List (Nat × Operand) → Option (List (Nat × Nat × Opd))
  | [] => some []
  | (i, x) :: r => match pl i, opd x, compParts pl r with
    | some (off, sz), some ox, some l => some ((off, sz, ox) :: l)
    | _, _, _ => none

def compV (P : Program) (o : Op) : Option VE :=
  match o with
  | .move x => (opd x).map .mv
  | .assign x => (opd x).map .mv
  | .pick c a b => do some (.pick (← opd c) (← opd a) (← opd b))
  | .binOp op t x y _ => do some ((eqK P op t) (← opd x) (← opd y))
  | .unOp op _ x => (opd x).map (.un op)
  | .convert src dst x =>
    match P.underlying src, P.underlying dst with
    | some (.int _), some (.int k) => (opd x).map (.cvi k)
    | _, _ => none
  | .fieldAddr s x f =>
    match P.underlying s with
    | some (.struct fields) => do
      let fl ← fields[f]?
      let n ← sizeT P fl.type
      if n = 0 then none else some (.fa (← opd x) fl.offset)
    | _ => none
  | .indexAddr t x i =>
    match P.underlying t with
    | some (.slice e) => do some (.ia (← opd x) (← opd i) (← sizeT P e))
    | some (.array n e) => do some (.iaa (← opd x) (← opd i) n (← sizeT P e))
    | _ => none
  | .index t x i =>
    match P.underlying t with
    | some .string => do some (.is (← opd x) (← opd i))
    | _ => none
  | .load t x => do some (.ld (← opd x) (← loadT P t))
  | .slice t x lo hi mx =>
    match P.underlying t with
    | some .string => if mx.isSome then none else do some (.ss (← opd x) (← lo.mapM opd) (← hi.mapM opd))
    | some (.slice e) => if mx.isSome && hi.isNone then none else do some (.sl (← opd x) (← lo.mapM opd) (← hi.mapM opd) (← mx.mapM opd) (← sizeT P e))
    | some (.array n e) => if mx.isSome && hi.isNone then none else do some (.sla (← opd x) (← lo.mapM opd) (← hi.mapM opd) (← mx.mapM opd) n (← sizeT P e))
    | _ => none
  | .call { callee := .builtin .len, args, argTypes } =>
    match argTypes[0]?, args[0]? with
    | some t, some x =>
      match P.underlying t with
      | some .string => (opd x).map .lns
      | some (.slice e) => do some (.lnl (← opd x) (← sizeT P e))
      | some (.array n _) => some (.cst (.int .i64 n))
      | _ => none
    | _, _ => none
  | .call { callee := .builtin .min, args, argTypes } =>
    match args.toList with
    | [x, y] => do some (.mn (← opd x) (← opd y))
    | _ => none
  | .build t parts =>
    match partPl P t with
    | some (z, pl) => if z.all Value.oneCell' = true then (compParts pl parts.toList).map (.bld z) else none
    | none => none
  | .extract t i => (opd t).map (.ext · i)
  | .field t x f =>
    match P.underlying t with
    | some (.struct fields) => do
      let fl ← fields[f]?
      some (.fv (← opd x) fl.offset (← loadT P fl.type))
    | _ => none
  | .nilCheck x => (opd x).map .nc
  | .makeFunc (.func f) first captured => if first.isEmpty then (captured.toList.mapM opd).map (.fnv f) else none
  | _ => none

section
variable {P : Program} {w : World} {G : Gh} {n : Nat} {a : Act} {fr : Fr} {F : List Fr}

/-- Cells stay as they are. -/
def CellsLe (w w' : World) : Prop := ∀ ad v, w.cell? ad = some v → w'.cell? ad = some v
theorem CellsLe.refl (w : World) : CellsLe w w := fun _ _ h => h
/-- The run gives a value that is worth x, and the world stays; so it does in each world (a load: in each one in which the cells are as they are). -/
def Gives (ld : Bool) (P : Program) (w : World) (G : Gh) (fr : Fr) (F : List Fr) (s : Sem Value) (x : AV) : Prop :=
  ∃ v, (∀ w', (ld = true → CellsLe w w') → s.run P w' = .ok v w') ∧ VR w G (rootsOf (fr :: F)) F.length x v

theorem VR_val {R : Rt} {f : Nat} {v u : Value} (h : VR w G R f (.v v) u) : u = v ∧ u.oneCell' = true := by
  obtain ⟨h1, _, h2⟩ := h
  simp only [Shape] at h1
  simp only [AV.cells, flatV_of_one h1, RVs] at h2
  obtain ⟨u', r, h3, h4, h5⟩ := h2
  simp at h3
  obtain ⟨rfl, rfl⟩ := h3
  cases f <;> (simp only [RV] at h4; exact ⟨h4, h1⟩)

theorem VR_mk {R : Rt} {f : Nat} {v : Value} (h : v.oneCell' = true) : VR w G R f (.v v) v := by
  refine ⟨h, ?_, ?_⟩ <;> simp only [AV.cells, flatV_of_one h, RVs]
  · simpa using h
  · exact ⟨v, [], rfl, by cases f <;> simp [RV], rfl⟩

theorem VR_one {R : Rt} {f : Nat} {x : AV} {u : Value} (hx : x.one = true) : VR w G R f x u ↔ u.oneCell' = true ∧ RV w G R f x u := by
  constructor
  · rintro ⟨h1, _, h2⟩
    have h1' : u.oneCell' = true := by cases x <;> simp_all [Shape, AV.one]
    rw [AV.cells_one hx, flatV_of_one h1'] at h2
    simp only [RVs] at h2
    obtain ⟨u', r, h3, h4, h5⟩ := h2
    simp at h3
    obtain ⟨rfl, rfl⟩ := h3
    exact ⟨h1', h4⟩
  · rintro ⟨h1, h2⟩
    refine ⟨by cases x <;> simp_all [Shape, AV.one], by rw [flatV_of_one h1]; simpa using h1, ?_⟩
    rw [AV.cells_one hx, flatV_of_one h1]
    simp only [RVs]
    exact ⟨u, [], rfl, h2, rfl⟩

theorem Rel.int (h : Rel w G n a fr F) {x : Opd} {i : Int} (hx : fr.int x = some i) : ∃ k, a.eval x.to = .int k i := by
  simp only [Fr.int] at hx
  split at hx
  · rename_i k m hv
    obtain rfl := Option.some.inj hx
    exact ⟨k, (VR_val (h.ev hv)).1⟩
  · simp at hx
theorem Rel.str (h : Rel w G n a fr F) {x : Opd} {s : ByteArray} (hx : fr.str x = some s) : a.eval x.to = .string s := by
  simp only [Fr.str] at hx
  split at hx
  · rename_i m hv
    obtain rfl := Option.some.inj hx
    exact (VR_val (h.ev hv)).1
  · simp at hx

theorem addrOff_upN (k : Nat) (p : Pl) (m : Nat) : addrOff (upN k (.ptr p)) m = upN k (.ptr { p with j := p.j + m }) := by
  induction k with
  | zero => rfl
  | succ k ih => simp only [upN, addrOff, ih]
theorem slElem_upN (k : Nat) (p : Pl) (es off len i : Nat) : slElem (upN k (.sl p es off len)) i = upN k (.ptr ⟨p.base, (p.j, off + i) :: p.path, 0⟩) := by
  induction k with
  | zero => rfl
  | succ k ih => simp only [upN, slElem, ih]
theorem slOff_upN (k : Nat) (p : Pl) (es off len l m : Nat) : slOff (upN k (.sl p es off len)) l m = upN k (.sl p es (off + l) m) := by
  induction k with
  | zero => rfl
  | succ k ih => simp only [upN, slOff, ih]
theorem arrSl_upN (k : Nat) (p : Pl) (es l m c : Nat) : arrSl (upN k (.ptr p)) es l m c = upN k (.sa { p with j := p.j + l * es } es m c) := by
  induction k with
  | zero => rfl
  | succ k ih => simp only [upN, arrSl, ih]
theorem upN_one (k : Nat) {x : AV} (h : x.one = true) : (upN k x).one = true := by
  cases k with
  | zero => exact h
  | succ k => rfl

/-- An address that leads to something. -/
theorem Rel.deref (h : Rel w G n a fr F) {x : Opd} {y z : AV} {p : Pl} {k : Nat} (hx : fr.ev x = some y) (hd : deref (fr :: F) y = some (z, p, k)) (hj : p.j < z.cells.length) :
    k ≤ F.length ∧ y = upN k (.ptr p) ∧ inMem p.base p.path = true ∧ rowOf (rootsOf (fr :: F)) (F.length - k) p.base p.path = some (z.cells.map AV.sh) ∧
      (rootsOf (fr :: F) (F.length - k) p.base).bind (fun q => q.sub p.path) = some z ∧ a.eval x.to = .pointer (some ⟨(G.addr (F.length - k) p.base p.path).1, (G.addr (F.length - k) p.base p.path).2 + p.j, none⟩) := by
  have hv := h.ev hx
  have hone : y.one = true := by
    cases y <;> simp_all [Ai.deref, AV.one]
  obtain ⟨h1, h2⟩ := (VR_one hone).1 hv
  obtain ⟨e1, e2, e3, e4, e5, e6⟩ := deref_sound (fr :: F) y z p k _ F.length rfl h.ok hd h2
  exact ⟨e1, e2, e3, e4, e5, e6 hj⟩

theorem Rel.slcell (h : Rel w G n a fr F) {x : Opd} {y : AV} {xs : List AV} {p : Pl} {es off len k : Nat} (hx : fr.ev x = some y) (hd : slcell (fr :: F) y = some (xs, p, es, off, len, k)) :
    k ≤ F.length ∧ y = upN k (.sl p es off len) ∧ cellOf (rootsOf (fr :: F)) (F.length - k) p = some (.own es xs.length) ∧ (rootsOf (fr :: F) (F.length - k) p.base).bind (fun z => z.cellIn p.path p.j) = some (.own es xs) ∧ off + len ≤ xs.length ∧
    ∃ ao cap, a.eval x.to = .slice (some ⟨(G.h (F.length - k) p.base p.path p.j).1, ao, none⟩) len cap ∧ len ≤ cap ∧ (cap = 0 ∨ ao = (G.h (F.length - k) p.base p.path p.j).2.1 + off * es) ∧
      blockOk w (G.wr (F.length - k)) (G.h (F.length - k) p.base p.path p.j).1 (ao + cap * es) := by
  have hv := h.ev hx
  have hone : y.one = true := by
    cases y <;> simp_all [Ai.slcell, AV.one]
  obtain ⟨h1, h2⟩ := (VR_one hone).1 hv
  exact slcell_sound (fr :: F) y xs p es off len k _ F.length rfl h.ok hd h2

theorem ptr_gives {R : Rt} {f k : Nat} (hk : k ≤ f) {p : Pl} {B o : Nat} (h : ∀ r, rowOf R (f - k) p.base p.path = some r → inMem p.base p.path = true → p.j < r.length → (⟨(G.addr (f - k) p.base p.path).1, (G.addr (f - k) p.base p.path).2 + p.j, none⟩ : Addr) = ⟨B, o, none⟩) :
    VR w G R f (upN k (.ptr p)) (.pointer (some ⟨B, o, none⟩)) := by
  refine (VR_one (upN_one k rfl)).2 ⟨rfl, (RV_upN k f _ _ hk).2 ?_⟩
  have : ∀ g, (∀ r, rowOf R g p.base p.path = some r → inMem p.base p.path = true → p.j < r.length → (⟨(G.addr g p.base p.path).1, (G.addr g p.base p.path).2 + p.j, none⟩ : Addr) = ⟨B, o, none⟩) → RV w G R g (.ptr p) (.pointer (some ⟨B, o, none⟩)) := by
    intro g hg
    simp only [RV]
    intro r hr hm hj
    rw [hg r hr hm hj]
  exact this _ h

theorem add_plain' (g o j : Nat) : (⟨g, o, none⟩ : Addr).add j = ⟨g, o + j, none⟩ := by
  unfold Addr.add
  split
  · rename_i h; subst h; rfl
  · rfl


theorem gives_mv (h : Rel w G n a fr F) {x : Operand} {e : VE} {y : AV} (hc : (opd x).map .mv = some e) (hx : veval e fr F = some y) : VR w G (rootsOf (fr :: F)) F.length y (a.eval x) := by
  simp only [Option.map_eq_some_iff] at hc
  obtain ⟨o, ho, rfl⟩ := hc
  rw [← opd_to ho]
  exact h.ev hx

theorem gives_ia (h : Rel w G n a fr F) {t e : TypeId} {x i : Operand} {ox oi : Opd} {es : Nat} {y : AV} (hu : P.underlying t = some (.slice e)) (hs : sizeT P e = some es) (hox : opd x = some ox) (hoi : opd i = some oi)
    (hx : veval (.ia ox oi es) fr F = some y) : Gives false P w G fr F (Instr.indexAt t (a.eval x) (a.eval i)) y := by
  simp only [veval] at hx
  cases h1 : fr.ev ox with
  | none => simp [h1] at hx
  | some z =>
    cases h2 : fr.int oi with
    | none => simp [h1, h2] at hx
    | some m =>
      simp only [h1, h2] at hx
      cases h3 : rdS es (fr :: F) z with
      | none => simp [h3] at hx
      | some ys =>
        simp only [h3] at hx
        split at hx
        · rename_i hb
          obtain ⟨hb1, hb2⟩ := hb
          obtain rfl := Option.some.inj hx
          obtain ⟨xs, p, off, len, k, hs3, hlen⟩ : ∃ xs p off len k, slcell (fr :: F) z = some (xs, p, es, off, len, k) ∧ (ys.length : Int) ≤ len := by
            simp only [rdS] at h3
            split at h3
            · simp only [Option.some.injEq] at h3; subst h3; simp at hb2; omega
            · split at h3
              · rename_i xs p es' off len k hsl
                split at h3
                · rename_i he
                  subst he
                  simp only [Option.some.injEq] at h3
                  subst h3
                  exact ⟨xs, p, off, len, k, hsl, by simp; omega⟩
                · simp at h3
              · simp at h3
          obtain ⟨hk, rfl, hcell, _, hle, ad, cap, hu1, hcap, had, hblk⟩ := h.slcell h1 hs3
          obtain ⟨ik, hik⟩ := h.int h2
          rw [← opd_to hox, ← opd_to hoi, hu1, hik]
          have hcap0 : cap ≠ 0 := by omega
          have hb2' : m < (len : Int) := by omega
          have had' := had.resolve_left hcap0
          refine ⟨.pointer (some ⟨(G.h (F.length - k) p.base p.path p.j).1, (G.h (F.length - k) p.base p.path p.j).2.1 + off * es + m.toNat * es, none⟩), ?_, ?_⟩
          · intro w' _
            simp only [Instr.indexAt, asIntOf, Sem.run_bind, Sem.run_pure, Result.andThen_ok, run_underlying hu, run_sizeOf hs, hb1, hb2', and_self, if_true]
            rw [had', add_plain']
          · rw [slElem_upN]
            refine ptr_gives hk (fun r hr _ _ => ?_)
            simp only [Gh.addr]
            obtain ⟨r0, hr0, hj0⟩ := cellOf_row (b := p.base) (path := p.path) (j := p.j) hcell
            obtain ⟨u0, _, hcs⟩ := h.ok.cell _ _ _ _ _ _ hr0 hj0
            simp only [CS] at hcs
            rw [hcs.1]
            congr 1
            rw [Nat.add_mul]; omega
        · simp at hx

theorem gives_fa (h : Rel w G n a fr F) {s : TypeId} {fields : Array Field} {fl : Field} {f m : Nat} {x : Operand} {ox : Opd} {y : AV} (hu : P.underlying s = some (.struct fields)) (hf : fields[f]? = some fl) (hm : sizeT P fl.type = some m) (hm0 : m ≠ 0)
    (hox : opd x = some ox) (hx : veval (.fa ox fl.offset) fr F = some y) : Gives false P w G fr F (Instr.fieldAt s (a.eval x) f) y := by
  simp only [veval] at hx
  cases h1 : fr.ev ox with
  | none => simp [h1] at hx
  | some z =>
    simp only [h1] at hx
    cases h3 : deref (fr :: F) z with
    | none => simp [h3] at hx
    | some q =>
      obtain ⟨y', p, k⟩ := q
      simp only [h3] at hx
      split at hx
      · rename_i hj
        obtain rfl := Option.some.inj hx
        obtain ⟨hk, rfl, hmem, hrow, _, hu1⟩ := h.deref h1 h3 hj
        rw [← opd_to hox, hu1]
        refine ⟨.pointer (some ⟨(G.addr (F.length - k) p.base p.path).1, (G.addr (F.length - k) p.base p.path).2 + p.j + fl.offset, none⟩), ?_, ?_⟩
        · intro w' _
          simp only [Instr.fieldAt, Instr.sureAddr, fieldPlace, Sem.run_bind, Sem.run_pure, Result.andThen_ok, run_underlying hu, hf, run_sizeOf hm, hm0, if_false, add_plain']
        · rw [addrOff_upN]
          exact ptr_gives hk (fun r hr _ _ => by
            show (⟨_, _ + (p.j + _), none⟩ : Addr) = _
            rw [Nat.add_assoc])
      · simp at hx

theorem gives_iaa (h : Rel w G n a fr F) {t e : TypeId} {x i : Operand} {ox oi : Opd} {len es : Nat} {y : AV} (hu : P.underlying t = some (.array len e)) (hs : sizeT P e = some es) (hox : opd x = some ox) (hoi : opd i = some oi)
    (hx : veval (.iaa ox oi len es) fr F = some y) : Gives false P w G fr F (Instr.indexAt t (a.eval x) (a.eval i)) y := by
  simp only [veval] at hx
  cases h1 : fr.ev ox with
  | none => simp [h1] at hx
  | some z =>
    cases h2 : fr.int oi with
    | none => simp [h1, h2] at hx
    | some m =>
      simp only [h1, h2] at hx
      cases h3 : deref (fr :: F) z with
      | none => simp [h3] at hx
      | some q =>
        obtain ⟨y', p, k⟩ := q
        simp only [h3] at hx
        split at hx
        · rename_i hb
          obtain ⟨hb1, hb2, hj⟩ := hb
          obtain rfl := Option.some.inj hx
          obtain ⟨hk, rfl, hmem, hrow, _, hu1⟩ := h.deref h1 h3 hj
          obtain ⟨ik, hik⟩ := h.int h2
          rw [← opd_to hox, ← opd_to hoi, hu1, hik]
          refine ⟨.pointer (some ⟨(G.addr (F.length - k) p.base p.path).1, (G.addr (F.length - k) p.base p.path).2 + p.j + m.toNat * es, none⟩), ?_, ?_⟩
          · intro w' _
            simp only [Instr.indexAt, Instr.sureAddr, asIntOf, Sem.run_bind, Sem.run_pure, Result.andThen_ok, run_underlying hu, run_sizeOf hs, hb1, hb2, and_self, if_true, add_plain']
          · rw [addrOff_upN]
            exact ptr_gives hk (fun r hr _ _ => by
            show (⟨_, _ + (p.j + _), none⟩ : Addr) = _
            rw [Nat.add_assoc])
        · simp at hx

theorem conc_mem {R : Rt} {f : Nat} {b : Base} {path : List Hop} {j : Nat} (hm : inMem b path = true) : conc w G f b path j = w.cell? ⟨(G.addr f b path).1, (G.addr f b path).2 + j, none⟩ := by
  simp [conc, hm]

theorem CS_liftN {R : Rt} {f k : Nat} (hk : k ≤ f) {b : Base} {path : List Hop} {j : Nat} {c : AV} {u : Value} (h : CS w G R (f - k) b path j c.sh u) : RV w G R f (liftN k (borrow1 b path j c)) u :=
  RV_liftN k f _ u hk (CS_borrow h)

theorem gives_ld (h : Rel w G n a fr F) {t : TypeId} {x : Operand} {ox : Opd} {m : Option Nat} {y : AV} (ht : loadT P t = some m) (hox : opd x = some ox)
    (hx : veval (.ld ox m) fr F = some y) : Gives true P w G fr F (Instr.loadAt t (a.eval x)) y := by
  simp only [veval] at hx
  cases h1 : fr.ev ox with
  | none => simp [h1] at hx
  | some z =>
    simp only [h1] at hx
    cases h3 : deref (fr :: F) z with
    | none => simp [h3] at hx
    | some q =>
      obtain ⟨y', p, k⟩ := q
      simp only [h3] at hx
      simp only [loadT] at ht
      cases hd : P.underlying t with
      | none => simp [hd] at ht
      | some d =>
        simp only [hd] at ht
        cases m with
        | none =>
          simp only at hx
          cases hc : y'.cells[p.j]? with
          | none => simp [hc] at hx
          | some c =>
            simp only [hc, Option.some.injEq] at hx
            subst hx
            have hj : p.j < y'.cells.length := (List.getElem?_eq_some_iff.1 hc).1
            obtain ⟨hk, rfl, hmem, hrow, _, hu1⟩ := h.deref h1 h3 hj
            have hag : isAggD d = false := by
              cases hag : isAggD d with
              | false => rfl
              | true => rw [hag] at ht; simp only [if_true, Option.bind_eq_some_iff] at ht; obtain ⟨q, _, hq⟩ := ht; split at hq <;> simp at hq
            obtain ⟨u, hu, hcs⟩ := h.ok.cell _ _ _ _ p.j c.sh hrow (by simp [hc])
            have hone := h.ok.one _ _ _ _ p.j c.sh u hrow (by simp [hc]) hu
            rw [conc_mem (R := rootsOf (fr :: F)) hmem] at hu
            rw [← opd_to hox, hu1]
            refine ⟨u, ?_, ?_⟩
            · intro w' hw'
              have hu' := hw' rfl _ _ hu
              simp only [Instr.loadAt, Instr.sureAddr, loadVar, Sem.run_bind, Sem.run_pure, Result.andThen_ok, run_isAgg hd, hag, Bool.false_eq_true, if_false, run_load, hu']
            · have hr := CS_liftN (R := rootsOf (fr :: F)) hk hcs
              exact (VR_one (RV_flat hr).1).2 ⟨hone, hr⟩
        | some s =>
          simp only at hx
          split at hx
          · rename_i hle
            simp only [Option.some.injEq] at hx
            subst hx
            have hag : isAggD d = true := by
              cases hag : isAggD d with
              | true => rfl
              | false => rw [hag] at ht; simp at ht
            rw [hag] at ht
            simp only [if_true, Option.bind_eq_some_iff] at ht
            obtain ⟨s', hs', hs2⟩ := ht
            have hs0 : s' ≠ 0 := by intro e; simp [e] at hs2
            simp only [hs0, if_false, Option.some.injEq] at hs2
            subst hs2
            -- the address: also where nothing is loaded
            have hv := h.ev h1
            have hone1 : z.one = true := by cases z <;> simp_all [Ai.deref, AV.one]
            obtain ⟨hz1, hz2⟩ := (VR_one hone1).1 hv
            obtain ⟨hk, rfl, hmem, hrow, _, hu1⟩ := deref_sound (fr :: F) z y' p k _ F.length rfl h.ok h3 hz2
            · have hu2 := hu1 (by omega)
              have hcells : ∀ j, j < s' → ∃ u, w.cell? ⟨(G.addr (F.length - k) p.base p.path).1, (G.addr (F.length - k) p.base p.path).2 + (p.j + j), none⟩ = some u ∧
                  u.oneCell' = true ∧ ∀ c, y'.cells[p.j + j]? = some c → CS w G (rootsOf (fr :: F)) (F.length - k) p.base p.path (p.j + j) c.sh u := by
                intro j hj
                have hlt : p.j + j < y'.cells.length := by omega
                obtain ⟨u, hu, hcs⟩ := h.ok.cell _ _ _ _ (p.j + j) (y'.cells[p.j + j]).sh hrow (by simp [hlt])
                have hone := h.ok.one _ _ _ _ (p.j + j) (y'.cells[p.j + j]).sh u hrow (by simp [hlt]) hu
                rw [conc_mem (R := rootsOf (fr :: F)) hmem] at hu
                exact ⟨u, hu, hone, fun c hc => by rw [List.getElem?_eq_getElem hlt] at hc; obtain rfl := Option.some.inj hc; exact hcs⟩
              let g : Nat → Value := fun j => (w.cell? ⟨(G.addr (F.length - k) p.base p.path).1, (G.addr (F.length - k) p.base p.path).2 + (p.j + j), none⟩).getD undef
              have hrun := fun (w' : World) (hw' : CellsLe w w') => run_loadCells (P := P) w' ⟨(G.addr (F.length - k) p.base p.path).1, (G.addr (F.length - k) p.base p.path).2 + p.j, none⟩ s' g (fun j hj => by
                obtain ⟨u, hu, _, _⟩ := hcells j hj
                rw [add_plain', Nat.add_assoc, hw' _ _ hu]
                simp [g, hu])
              rw [← opd_to hox, hu2]
              refine ⟨.agg ((List.range s').map g).toArray, ?_, ?_, ?_, ?_⟩
              · intro w' hw'
                simp only [Instr.loadAt, Instr.sureAddr, loadVar, Sem.run_bind, Sem.run_pure, Result.andThen_ok, run_isAgg hd, hag, if_true, run_sizeOf hs', hrun w' (hw' rfl)]
              · refine ⟨_, rfl, ?_⟩
                simp only [loaded, List.length_map, borrowL_length, List.length_take, List.length_drop, List.size_toArray, List.length_range]
                omega
              · intro v hv
                simp only [flatV, List.mem_map, List.mem_range] at hv
                obtain ⟨j, hj, rfl⟩ := hv
                obtain ⟨u, hu, hone, _⟩ := hcells j hj
                simpa [g, hu] using hone
              · show RVs w G (rootsOf (fr :: F)) F.length (loaded k p ((y'.cells.drop p.j).take s')) ((List.range s').map g)
                refine (RVs_iff _ _).2 ⟨?_, ?_⟩
                · simp only [loaded, List.length_map, borrowL_length, List.length_take, List.length_drop, List.length_range]
                  omega
                · intro j c hc
                  simp only [loaded, List.getElem?_map, borrowL_get, Option.map_eq_some_iff, List.getElem?_take, List.getElem?_drop] at hc
                  obtain ⟨c1, ⟨c2, hc2, rfl⟩, rfl⟩ := hc
                  split at hc2
                  · rename_i hj
                    obtain ⟨u, hu, _, hcs⟩ := hcells j hj
                    refine ⟨u, ?_, CS_liftN hk (hcs c2 hc2)⟩
                    simp [hj, g, hu]
                  · simp at hc2
          · simp at hx

end

end Go.Proofs.Ythlehngbadianaa.Ai
/- The value operations give what they are said to give: the rest, and all together. -/
set_option linter.unusedVariables false
set_option linter.unusedSimpArgs false
namespace Go.Proofs.Ythlehngbadianaa.Ai
open Go Go.RowKit

section
variable {P : Program} {w : World} {G : Gh} {n : Nat} {a : Act} {fr : Fr} {F : List Fr}

theorem ev_val (h : Rel w G n a fr F) {x : Operand} {o : Opd} (ho : opd x = some o) {v : Value} (hv : fr.ev o = some (.v v)) : a.eval x = v ∧ v.oneCell' = true := by
  rw [← opd_to ho]
  have := VR_val (h.ev hv)
  exact ⟨this.1, this.1 ▸ this.2⟩

theorem binV_one {op : BinOp} {x y v : Value} (h : binV op x y = some v) : v.oneCell' = true ∧ x.oneCell' = true ∧ x ≠ .nilIface := by
  cases x <;> cases y <;> simp only [binV] at h
  case int.int k a k' b =>
    refine ⟨?_, rfl, by simp⟩
    cases op <;> simp only [intShift, intBin] at h <;> (repeat' split at h) <;> simp at h <;> subst h <;> rfl
  case string.string a b =>
    refine ⟨?_, rfl, by simp⟩
    cases op <;> simp only [strBin] at h <;> (repeat' split at h) <;> simp at h <;> subst h <;> rfl
  all_goals simp at h

theorem unV_one {op : UnOp} {x v : Value} (h : unV op x = some v) : v.oneCell' = true := by
  cases x <;> cases op <;> simp only [unV, Option.some.injEq] at h <;> first
    | (subst h; rfl)
    | simp at h

theorem gives_bin (h : Rel w G n a fr F) {op : BinOp} {t : TypeId} {x y : Operand} {ox oy : Opd} {z : AV} (hox : opd x = some ox) (hoy : opd y = some oy) (hx : veval (.bin op ox oy) fr F = some z) :
    Gives false P w G fr F (do eqGuard op t x y (a.eval x) (a.eval y); binOp op t (a.eval x) (a.eval y)) z := by
  simp only [veval] at hx
  split at hx
  · rename_i u v h1 h2
    simp only [Option.map_eq_some_iff] at hx
    obtain ⟨r, hr, rfl⟩ := hx
    obtain ⟨e1, _⟩ := ev_val h hox h1
    obtain ⟨e2, _⟩ := ev_val h hoy h2
    obtain ⟨k1, k2, k3⟩ := binV_one hr
    refine ⟨r, fun w' _ => ?_, VR_mk k1⟩
    rw [e1, e2]
    simp only [Sem.run_bind, run_eqGuard_plain k2 k3, Result.andThen_ok, run_binV hr]
  · simp at hx

theorem gives_un (h : Rel w G n a fr F) {op : UnOp} {x : Operand} {ox : Opd} {z : AV} (hox : opd x = some ox) (hx : veval (.un op ox) fr F = some z) : Gives false P w G fr F (Op.unary op (a.eval x)) z := by
  simp only [veval] at hx
  split at hx
  · rename_i u h1
    simp only [Option.map_eq_some_iff] at hx
    obtain ⟨r, hr, rfl⟩ := hx
    obtain ⟨e1, _⟩ := ev_val h hox h1
    exact ⟨r, fun w' _ => by rw [e1]; exact run_unV hr, VR_mk (unV_one hr)⟩
  · simp at hx

theorem gives_cvi (h : Rel w G n a fr F) {s d : TypeId} {ks k : IntKind} {x : Operand} {ox : Opd} {z : AV} (hs : P.underlying s = some (.int ks)) (hd : P.underlying d = some (.int k)) (hox : opd x = some ox) (hx : veval (.cvi k ox) fr F = some z) :
    Gives false P w G fr F (convert s d (a.eval x)) z := by
  simp only [veval, Option.map_eq_some_iff] at hx
  obtain ⟨i, hi, rfl⟩ := hx
  obtain ⟨ik, hik⟩ := h.int hi
  refine ⟨.int k (k.wrap i), fun w' _ => ?_, VR_mk rfl⟩
  rw [← opd_to hox, hik]
  simp only [convert, Sem.run_bind, run_underlying hs, run_underlying hd, Result.andThen_ok, Conv.intToInt, Sem.run_pure]

theorem gives_is (h : Rel w G n a fr F) {t : TypeId} {x i : Operand} {ox oi : Opd} {z : AV} (hu : P.underlying t = some .string) (hox : opd x = some ox) (hoi : opd i = some oi) (hx : veval (.is ox oi) fr F = some z) :
    Gives false P w G fr F (Instr.index t (a.eval x) (a.eval i)) z := by
  simp only [veval] at hx
  cases h1 : fr.str ox with
  | none => simp [h1] at hx
  | some s =>
    cases h2 : fr.int oi with
    | none => simp [h1, h2] at hx
    | some m =>
      simp only [h1, h2] at hx
      split at hx
      · rename_i hb
        obtain rfl := Option.some.inj hx
        obtain ⟨ik, hik⟩ := h.int h2
        rw [← opd_to hox, ← opd_to hoi, hik, h.str h1]
        have hlt : m.toNat < s.size := by omega
        refine ⟨_, fun w' _ => ?_, VR_mk rfl⟩
        simp only [Instr.index, asIntOf, Sem.run_bind, Sem.run_pure, Result.andThen_ok, run_underlying hu, hb.1, if_true]
        rw [getElem?_pos s m.toNat hlt]
        rfl
      · simp at hx

theorem Rel.int? (h : Rel w G n a fr F) {x : Option Operand} {o : Option Opd} {i : Option Int} (ho : x.mapM opd = some o) (hi : fr.int? o = some i) :
    (x = none ∧ i = none) ∨ ∃ y k m, x = some y ∧ i = some m ∧ a.eval y = .int k m := by
  cases x with
  | none => simp at ho; subst ho; simp [Fr.int?] at hi; left; exact ⟨rfl, hi.symm⟩
  | some y =>
    simp only [Option.mapM_some, Option.map_eq_map, Option.map_eq_some_iff] at ho
    obtain ⟨oy, hoy, rfl⟩ := ho
    simp only [Fr.int?, Option.map_eq_some_iff] at hi
    obtain ⟨m, hm, rfl⟩ := hi
    obtain ⟨k, hk⟩ := h.int hm
    right
    exact ⟨y, k, m, rfl, rfl, by rw [← opd_to hoy]; exact hk⟩

theorem run_sliceBound {k : IntKind} {i : Int} {y : Nat} {c : BoundsCode} (h0 : 0 ≤ i) (h1 : i ≤ (y : Int)) : (Instr.sliceBound (.int k i) y c).run P w = .ok i.toNat w := by
  simp only [Instr.sliceBound, asIntOf, Sem.run_bind, Sem.run_pure, Result.andThen_ok, h0, h1, and_self, if_true]

theorem run_bounds (isSl : Bool) {len cap : Nat} {lo hi mx : Option Value} {l h m : Option Int} {b : Nat × Nat × Nat} (hb : okBounds len l h m = some b) (hlc : len ≤ cap) (hmh : mx.isSome = true → hi.isSome = true)
    (hl : (lo = none ∧ l = none) ∨ ∃ k i, lo = some (.int k i) ∧ l = some i) (hh : (hi = none ∧ h = none) ∨ ∃ k i, hi = some (.int k i) ∧ h = some i) (hm : (mx = none ∧ m = none) ∨ ∃ k i, mx = some (.int k i) ∧ m = some i) :
    (∀ w, (Instr.sliceBounds isSl len cap lo hi mx).run P w = .ok (b.1, b.2.1, if mx.isSome then b.2.2 else cap) w) ∧ b.1 ≤ b.2.1 ∧ b.2.1 ≤ b.2.2 ∧ b.2.2 ≤ len := by
  simp only [okBounds] at hb
  split at hb
  · rename_i hc
    obtain rfl := Option.some.inj hb
    obtain ⟨h1, h2, h3, h4⟩ := hc
    refine ⟨fun w => ?_, by simp only; omega, by simp only; omega, by simp only; omega⟩
    rcases hm with ⟨rfl, rfl⟩ | ⟨km, im, rfl, rfl⟩
    · rcases hh with ⟨rfl, rfl⟩ | ⟨kh, ih, rfl, rfl⟩
      · rcases hl with ⟨rfl, rfl⟩ | ⟨kl, il, rfl, rfl⟩
        · simp only [Instr.sliceBounds, Sem.run_bind, Sem.run_pure, Result.andThen_ok, Option.getD_none, Option.isSome_none]
          simp
        · simp only [Option.getD_none, Option.getD_some] at h1 h2 h3 h4
          simp only [Instr.sliceBounds, Sem.run_bind, Sem.run_pure, Result.andThen_ok, Option.getD_none, Option.getD_some, Option.isSome_none, run_sliceBound h1 h2]
          simp
      · simp only [Option.getD_none, Option.getD_some] at h1 h2 h3 h4
        have e1 : 0 ≤ ih := by omega
        have e2 : ih ≤ (cap : Int) := by omega
        rcases hl with ⟨rfl, rfl⟩ | ⟨kl, il, rfl, rfl⟩
        · simp only [Instr.sliceBounds, Sem.run_bind, Sem.run_pure, Result.andThen_ok, Option.getD_none, Option.getD_some, Option.isSome_none, run_sliceBound e1 e2]
          simp
        · simp only [Option.getD_some] at h1 h2
          have e3 : il ≤ (ih.toNat : Int) := by omega
          simp only [Instr.sliceBounds, Sem.run_bind, Sem.run_pure, Result.andThen_ok, Option.getD_none, Option.getD_some, Option.isSome_none, run_sliceBound e1 e2, run_sliceBound h1 e3]
          simp
    · rcases hh with ⟨rfl, rfl⟩ | ⟨kh, ih, rfl, rfl⟩
      · simp at hmh
      · simp only [Option.getD_none, Option.getD_some] at h1 h2 h3 h4
        have e0 : 0 ≤ im := by omega
        have e00 : im ≤ (cap : Int) := by omega
        have e1 : 0 ≤ ih := by omega
        have e2 : ih ≤ (im.toNat : Int) := by omega
        rcases hl with ⟨rfl, rfl⟩ | ⟨kl, il, rfl, rfl⟩
        · simp only [Instr.sliceBounds, Sem.run_bind, Sem.run_pure, Result.andThen_ok, Option.getD_none, Option.getD_some, Option.isSome_some, if_true, run_sliceBound e0 e00, run_sliceBound e1 e2]
          simp
        · simp only [Option.getD_some] at h1 h2
          have e3 : il ≤ (ih.toNat : Int) := by omega
          simp only [Instr.sliceBounds, Sem.run_bind, Sem.run_pure, Result.andThen_ok, Option.getD_none, Option.getD_some, Option.isSome_some, if_true, run_sliceBound e0 e00, run_sliceBound e1 e2, run_sliceBound h1 e3]
  · simp at hb

theorem bound_arg (h : Rel w G n a fr F) {x : Option Operand} {o : Option Opd} {i : Option Int} (ho : x.mapM opd = some o) (hi : fr.int? o = some i) : (x.map a.eval = none ∧ i = none) ∨ ∃ k m, x.map a.eval = some (.int k m) ∧ i = some m := by
  rcases h.int? ho hi with ⟨rfl, rfl⟩ | ⟨y, k, m, rfl, rfl, he⟩
  · left; exact ⟨rfl, rfl⟩
  · right; exact ⟨k, m, by simp [he], rfl⟩

theorem gives_ss (h : Rel w G n a fr F) {t : TypeId} {x : Operand} {lo hi : Option Operand} {ox : Opd} {ol oh : Option Opd} {z : AV} (hu : P.underlying t = some .string) (hox : opd x = some ox) (hol : lo.mapM opd = some ol) (hoh : hi.mapM opd = some oh)
    (hx : veval (.ss ox ol oh) fr F = some z) : Gives false P w G fr F (Instr.sliceAt t (a.eval x) (lo.map a.eval) (hi.map a.eval) (Option.map a.eval none)) z := by
  simp only [veval] at hx
  cases h1 : fr.str ox with
  | none => simp [h1] at hx
  | some s =>
    cases h2 : fr.int? ol with
    | none => simp [h1, h2] at hx
    | some l =>
      cases h3 : fr.int? oh with
      | none => simp [h1, h2, h3] at hx
      | some hh =>
        simp only [h1, h2, h3, Option.map_eq_some_iff] at hx
        obtain ⟨b, hb, rfl⟩ := hx
        have hr := (run_bounds (P := P) false hb (Nat.le_refl _) (by simp) (bound_arg h hol h2) (bound_arg h hoh h3) (Or.inl ⟨rfl, rfl⟩)).1
        refine ⟨.string (s.extract b.1 b.2.1), fun w' _ => ?_, VR_mk rfl⟩
        rw [← opd_to hox, h.str h1]
        simp only [Instr.sliceAt, Instr.slice, Sem.run_bind, run_underlying hu, Result.andThen_ok, Option.map_none, Option.isSome_none, Bool.false_eq_true, if_false, hr, Sem.run_pure]

theorem RV_sl_sub {R : Rt} {f : Nat} {p : Pl} {es off l len' cap' ao' : Nat}
    (hlen : len' ≤ cap') (had : cap' = 0 ∨ ao' = (G.h f p.base p.path p.j).2.1 + (off + l) * es)
    (hblk : blockOk w (G.wr f) (G.h f p.base p.path p.j).1 (ao' + cap' * es)) : RV w G R f (.sl p es (off + l) len') (.slice (some ⟨(G.h f p.base p.path p.j).1, ao', none⟩) len' cap') := by
  simp only [RV]
  intro m hm _
  exact ⟨ao', cap', rfl, hlen, had, hblk⟩

theorem gives_sl (h : Rel w G n a fr F) {t e : TypeId} {x : Operand} {lo hi mx : Option Operand} {ox : Opd} {ol oh om : Option Opd} {es : Nat} {z : AV} (hu : P.underlying t = some (.slice e)) (hs : sizeT P e = some es) (hmh : mx.isSome = true → hi.isSome = true)
    (hox : opd x = some ox) (hol : lo.mapM opd = some ol) (hoh : hi.mapM opd = some oh) (hom : mx.mapM opd = some om) (hx : veval (.sl ox ol oh om es) fr F = some z) :
    Gives false P w G fr F (Instr.sliceAt t (a.eval x) (lo.map a.eval) (hi.map a.eval) (mx.map a.eval)) z := by
  simp only [veval] at hx
  cases h1 : fr.ev ox with
  | none => simp [h1] at hx
  | some y =>
    cases h2 : fr.int? ol with
    | none => simp [h1, h2] at hx
    | some l =>
      cases h3 : fr.int? oh with
      | none => simp [h1, h2, h3] at hx
      | some hh =>
        cases h4 : fr.int? om with
        | none => simp [h1, h2, h3, h4] at hx
        | some m =>
          simp only [h1, h2, h3, h4] at hx
          cases h5 : rdS es (fr :: F) y with
          | none => simp [h5] at hx
          | some ys =>
            simp only [h5, Option.map_eq_some_iff] at hx
            obtain ⟨b, hb, rfl⟩ := hx
            simp only [rdS] at h5
            split at h5
            · rename_i hnil
              simp only [Option.some.injEq] at h5
              subst h5
              obtain ⟨hr, hb1, hb2, hb3⟩ := run_bounds (P := P) true hb (Nat.le_refl _) (by simpa using hmh) (bound_arg h hol h2) (bound_arg h hoh h3) (bound_arg h hom h4)
              have hone : y.one = true := by cases y <;> simp_all [nilsl, AV.one]
              have hv := (VR_one hone).1 (h.ev h1)
              have e1 := nilsl_sound _ _ _ hnil hv.2
              rw [← opd_to hox, e1]
              have hy : ∀ l m, slOff y l m = y := by
                intro l m
                have : ∀ z, nilsl z = true → slOff z l m = z := by
                  intro z
                  induction z using nilsl.induct <;> simp_all [nilsl, slOff]
                exact this y hnil
              rw [hy]
              refine ⟨.slice none 0 0, ?_, by rw [← e1]; exact h.ev h1⟩
              simp only [List.length_nil] at hr hb3
              have e0 : b.1 = 0 := by omega
              have e00 : b.2.1 = 0 := by omega
              have e3 : b.2.2 = 0 := by omega
              simp only [Instr.sliceAt, Instr.slice, Sem.run_bind, run_underlying hu, Result.andThen_ok, hr, run_sizeOf hs, Sem.run_pure, e0, e00, e3]
              simp
            · split at h5
              · rename_i xs p es' off len k hsl
                split at h5
                · rename_i hes
                  subst hes
                  simp only [Option.some.injEq] at h5
                  obtain ⟨hk, rfl, hcell, _, hle, ad, cap, hu1, hcap, had, hblk⟩ := h.slcell h1 hsl
                  have hyl : ys.length = len := by rw [← h5]; simp; omega
                  rw [hyl] at hb
                  obtain ⟨hr, hb1, hb2, hb3⟩ := run_bounds (P := P) true hb hcap (by simpa using hmh) (bound_arg h hol h2) (bound_arg h hoh h3) (bound_arg h hom h4)
                  rw [← opd_to hox, hu1]
                  have hmc : (if (mx.map a.eval).isSome then b.2.2 else cap) ≤ cap := by split <;> omega
                  have hhc : b.2.1 ≤ (if (mx.map a.eval).isSome then b.2.2 else cap) := by split <;> omega
                  generalize hM : (if (mx.map a.eval).isSome then b.2.2 else cap) = M at hr hmc hhc
                  refine ⟨.slice (if M = b.1 then some ⟨(G.h (F.length - k) p.base p.path p.j).1, ad, none⟩ else (some (⟨(G.h (F.length - k) p.base p.path p.j).1, ad, none⟩ : Addr)).map (·.add (b.1 * es'))) (b.2.1 - b.1) (M - b.1), ?_, ?_⟩
                  · intro w' _
                    simp only [Instr.sliceAt, Instr.slice, Sem.run_bind, run_underlying hu, Result.andThen_ok, hr, run_sizeOf hs, Sem.run_pure]
                  · rw [slOff_upN]
                    refine (VR_one (upN_one k rfl)).2 ⟨by split <;> rfl, (RV_upN k _ _ _ hk).2 ?_⟩
                    obtain ⟨arr, el, fz, hb', hsz, hfz⟩ := hblk
                    by_cases hMb : M = b.1
                    · rw [if_pos hMb]
                      refine RV_sl_sub (by omega) (Or.inl (by omega)) ?_
                      refine ⟨arr, el, fz, hb', ?_, hfz⟩
                      rw [show M - b.1 = 0 by omega]
                      omega
                    · rw [if_neg hMb]
                      have hcap0 : cap ≠ 0 := by omega
                      have had' := had.resolve_left hcap0
                      simp only [Option.map_some, add_plain']
                      refine RV_sl_sub (by omega) (Or.inr ?_) ?_
                      · rw [had', Nat.add_mul, Nat.add_assoc]
                      · refine ⟨arr, el, fz, hb', ?_, hfz⟩
                        have e1 : b.1 * es' + (M - b.1) * es' = M * es' := by rw [← Nat.add_mul]; congr 1; omega
                        have e2 : M * es' ≤ cap * es' := Nat.mul_le_mul_right _ hmc
                        omega
                · simp at h5
              · simp at h5

theorem gives_sla (h : Rel w G n a fr F) {t e : TypeId} {x : Operand} {lo hi mx : Option Operand} {ox : Opd} {ol oh om : Option Opd} {N es : Nat} {z : AV} (hu : P.underlying t = some (.array N e)) (hs : sizeT P e = some es) (hmh : mx.isSome = true → hi.isSome = true)
    (hox : opd x = some ox) (hol : lo.mapM opd = some ol) (hoh : hi.mapM opd = some oh) (hom : mx.mapM opd = some om) (hx : veval (.sla ox ol oh om N es) fr F = some z) :
    Gives false P w G fr F (Instr.sliceAt t (a.eval x) (lo.map a.eval) (hi.map a.eval) (mx.map a.eval)) z := by
  simp only [veval] at hx
  cases h1 : fr.ev ox with
  | none => simp [h1] at hx
  | some y =>
    cases h2 : fr.int? ol with
    | none => simp [h1, h2] at hx
    | some l =>
      cases h3 : fr.int? oh with
      | none => simp [h1, h2, h3] at hx
      | some hh =>
        cases h4 : fr.int? om with
        | none => simp [h1, h2, h3, h4] at hx
        | some m =>
          simp only [h1, h2, h3, h4] at hx
          cases h5 : deref (fr :: F) y with
          | none => simp [h5] at hx
          | some q =>
            obtain ⟨y', p, k⟩ := q
            simp only [h5] at hx
            split at hx
            · rename_i hj
              simp only [Option.map_eq_some_iff] at hx
              obtain ⟨b, hb, rfl⟩ := hx
              obtain ⟨hk, rfl, hmem, hrow, _, hu1⟩ := h.deref h1 h5 hj.1
              obtain ⟨hr, hb1, hb2, hb3⟩ := run_bounds (P := P) false hb (Nat.le_refl _) (by simpa using hmh) (bound_arg h hol h2) (bound_arg h hoh h3) (bound_arg h hom h4)
              rw [← opd_to hox, hu1]
              have hMeq : (if (mx.map a.eval).isSome then b.2.2 else N) = b.2.2 := by
                split
                · rfl
                · rename_i hmx
                  rcases bound_arg h hom h4 with ⟨e1, e2⟩ | ⟨k', m', e1, e2⟩
                  · subst e2
                    simp only [okBounds] at hb
                    split at hb
                    · obtain rfl := Option.some.inj hb; simp
                    · simp at hb
                  · rw [e1] at hmx; simp at hmx
              rw [hMeq] at hr
              refine ⟨.slice (some (if b.2.2 = b.1 then ⟨(G.addr (F.length - k) p.base p.path).1, (G.addr (F.length - k) p.base p.path).2 + p.j, none⟩ else (⟨(G.addr (F.length - k) p.base p.path).1, (G.addr (F.length - k) p.base p.path).2 + p.j, none⟩ : Addr).add (b.1 * es))) (b.2.1 - b.1) (b.2.2 - b.1), ?_, ?_⟩
              · intro w' _
                simp only [Instr.sliceAt, Instr.sureAddr, Sem.run_bind, run_underlying hu, Result.andThen_ok, hr, run_sizeOf hs, Sem.run_pure]
              · rw [arrSl_upN]
                refine (VR_one (upN_one k rfl)).2 ⟨rfl, (RV_upN k _ _ _ hk).2 ?_⟩
                have key : ∀ g, (∀ r, rowOf (rootsOf (fr :: F)) g p.base p.path = some r → inMem p.base p.path = true → True) → g = F.length - k → RV w G (rootsOf (fr :: F)) g (.sa { p with j := p.j + b.1 * es } es (b.2.1 - b.1) (b.2.2 - b.1))
                    (.slice (some (if b.2.2 = b.1 then ⟨(G.addr (F.length - k) p.base p.path).1, (G.addr (F.length - k) p.base p.path).2 + p.j, none⟩ else (⟨(G.addr (F.length - k) p.base p.path).1, (G.addr (F.length - k) p.base p.path).2 + p.j, none⟩ : Addr).add (b.1 * es))) (b.2.1 - b.1) (b.2.2 - b.1)) := by
                  intro g _ hg
                  subst hg
                  simp only [RV]
                  intro r _ _ _ _
                  refine ⟨_, rfl, ?_, ?_⟩
                  · split
                    · rfl
                    · rw [add_plain']
                  · by_cases hMb : b.2.2 = b.1
                    · left; omega
                    · right; rw [if_neg hMb, add_plain', Nat.add_assoc]
                exact key _ (fun _ _ _ => trivial) rfl
            · simp at hx

end

end Go.Proofs.Ythlehngbadianaa.Ai
/- Value operations: comparisons with nil, min, struct literals. -/
set_option linter.unusedVariables false
set_option linter.unusedSimpArgs false
namespace Go.Proofs.Ythlehngbadianaa.Ai
open Go Go.RowKit

section
variable {P : Program} {w : World} {G : Gh} {n : Nat} {a : Act} {fr : Fr} {F : List Fr}

theorem ptrNil_sound (h : Rel w G n a fr F) {x : Opd} {y : AV} {b : Bool} (hx : fr.ev x = some y) (hn : ptrNil (fr :: F) y = some b) : ∃ q, a.eval x.to = .pointer q ∧ q.isNone = b := by
  unfold ptrNil at hn
  split at hn
  · rename_i u
    split at hn
    · rename_i hu
      simp only [Option.some.injEq] at hn
      subst hn
      have := (VR_val (h.ev hx)).1
      rw [this]
      unfold isNilP at hu
      split at hu
      · exact ⟨none, rfl, rfl⟩
      · simp at hu
    · simp at hn
  · split at hn
    · rename_i z p k hd
      split at hn
      · rename_i hj
        simp only [Option.some.injEq] at hn
        subst hn
        obtain ⟨_, _, _, _, _, hu⟩ := h.deref hx hd hj
        exact ⟨_, hu, rfl⟩
      · simp at hn
    · simp at hn

theorem slNil_sound (h : Rel w G n a fr F) {x : Opd} {y : AV} {b : Bool} (hx : fr.ev x = some y) (hn : slNil (fr :: F) y = some b) : ∃ q l c, a.eval x.to = .slice q l c ∧ q.isNone = b := by
  unfold slNil at hn
  split at hn
  · rename_i hnil
    simp only [Option.some.injEq] at hn
    subst hn
    have hone : y.one = true := by cases y <;> simp_all [nilsl, AV.one]
    have hv := (VR_one hone).1 (h.ev hx)
    exact ⟨none, 0, 0, nilsl_sound _ _ _ hnil hv.2, rfl⟩
  · split at hn
    · rename_i r hs
      simp only [Option.some.injEq] at hn
      subst hn
      obtain ⟨xs, p, es, off, len, k⟩ := r
      obtain ⟨_, _, _, _, _, ao, cap, hu, _⟩ := h.slcell hx hs
      exact ⟨_, len, cap, hu, rfl⟩
    · simp at hn

theorem eqNil_spec {ng : Bool} {a b : Option Bool} {z : AV} (h : eqNil ng a b = some z) : ∃ x y, a = some x ∧ b = some y ∧ (x = true ∨ y = true) ∧ z = .v (.bool ((x == y) != ng)) := by
  unfold eqNil at h
  split at h
  · simp only [Option.some.injEq] at h
    subst h
    exact ⟨true, _, rfl, rfl, Or.inl rfl, by simp⟩
  · simp only [Option.some.injEq] at h
    subst h
    exact ⟨false, true, rfl, rfl, Or.inr rfl, by simp⟩
  · simp at h

theorem run_equal_ptr {W : World} {t e : TypeId} (hu : P.underlying t = some (.pointer e)) {p q : Option Addr} (h : p.isNone = true ∨ q.isNone = true) : (Op.equal t (.pointer p) (.pointer q)).run P W = .ok (p.isNone == q.isNone) W := by
  unfold Op.equal
  generalize hd : Op.maxDepth = d
  cases d with
  | zero => exact absurd hd (by decide)
  | succ d => cases p <;> cases q <;> simp at h <;> simp [Op.equalIn, run_underlying hu]
theorem run_equal_sl {W : World} {t e : TypeId} (hu : P.underlying t = some (.slice e)) {p q : Option Addr} {l c l' c' : Nat} (h : p.isNone = true ∨ q.isNone = true) : (Op.equal t (.slice p l c) (.slice q l' c')).run P W = .ok (p.isNone == q.isNone) W := by
  unfold Op.equal
  generalize hd : Op.maxDepth = d
  cases d with
  | zero => exact absurd hd (by decide)
  | succ d => cases p <;> cases q <;> simp at h <;> simp [Op.equalIn, run_underlying hu]
theorem run_equal_bool {W : World} {t : TypeId} (hu : P.underlying t = some .bool) {p q : Bool} : (Op.equal t (.bool p) (.bool q)).run P W = .ok (p == q) W := by
  unfold Op.equal
  generalize hd : Op.maxDepth = d
  cases d with
  | zero => exact absurd hd (by decide)
  | succ d => simp [Op.equalIn, run_underlying hu]

theorem gives_eqp (h : Rel w G n a fr F) {ng : Bool} {t e : TypeId} {x y : Operand} {ox oy : Opd} {z : AV} (hu : P.underlying t = some (.pointer e)) (hox : opd x = some ox) (hoy : opd y = some oy) (hx : veval (.eqp ng ox oy) fr F = some z) :
    Gives false P w G fr F (do eqGuard (if ng then .neq else .eql) t x y (a.eval x) (a.eval y); binOp (if ng then .neq else .eql) t (a.eval x) (a.eval y)) z := by
  simp only [veval] at hx
  split at hx
  · rename_i u v h1 h2
    obtain ⟨b1, b2, k1, k2, k3, rfl⟩ := eqNil_spec hx
    obtain ⟨p, e1, f1⟩ := ptrNil_sound h h1 k1
    obtain ⟨q, e2, f2⟩ := ptrNil_sound h h2 k2
    rw [opd_to hox] at e1
    rw [opd_to hoy] at e2
    subst f1 f2
    refine ⟨_, fun w' _ => ?_, VR_mk rfl⟩
    rw [e1, e2]
    cases ng <;> simp [eqGuard, binOp, run_equal_ptr hu k3]
  · simp at hx
theorem gives_eqs (h : Rel w G n a fr F) {ng : Bool} {t e : TypeId} {x y : Operand} {ox oy : Opd} {z : AV} (hu : P.underlying t = some (.slice e)) (hox : opd x = some ox) (hoy : opd y = some oy) (hx : veval (.eqs ng ox oy) fr F = some z) :
    Gives false P w G fr F (do eqGuard (if ng then .neq else .eql) t x y (a.eval x) (a.eval y); binOp (if ng then .neq else .eql) t (a.eval x) (a.eval y)) z := by
  simp only [veval] at hx
  split at hx
  · rename_i u v h1 h2
    obtain ⟨b1, b2, k1, k2, k3, rfl⟩ := eqNil_spec hx
    obtain ⟨p, l1, c1, e1, f1⟩ := slNil_sound h h1 k1
    obtain ⟨q, l2, c2, e2, f2⟩ := slNil_sound h h2 k2
    rw [opd_to hox] at e1
    rw [opd_to hoy] at e2
    subst f1 f2
    refine ⟨_, fun w' _ => ?_, VR_mk rfl⟩
    rw [e1, e2]
    cases ng <;> simp [eqGuard, binOp, run_equal_sl hu k3]
  · simp at hx
theorem gives_eqb (h : Rel w G n a fr F) {ng : Bool} {t : TypeId} {x y : Operand} {ox oy : Opd} {z : AV} (hu : P.underlying t = some .bool) (hox : opd x = some ox) (hoy : opd y = some oy) (hx : veval (.eqb ng ox oy) fr F = some z) :
    Gives false P w G fr F (do eqGuard (if ng then .neq else .eql) t x y (a.eval x) (a.eval y); binOp (if ng then .neq else .eql) t (a.eval x) (a.eval y)) z := by
  simp only [veval] at hx
  split at hx
  · rename_i u v h1 h2
    simp only [Option.some.injEq] at hx
    subst hx
    obtain ⟨e1, _⟩ := ev_val h hox h1
    obtain ⟨e2, _⟩ := ev_val h hoy h2
    refine ⟨_, fun w' _ => ?_, VR_mk rfl⟩
    rw [e1, e2]
    cases ng <;> simp [eqGuard, binOp, run_equal_bool hu]
  · simp at hx

theorem gives_mn (h : Rel w G n a fr F) {ts : Array TypeId} {ty : TypeId} {args : Array Operand} {x y : Operand} {ox oy : Opd} {z : AV} (ha : args.toList = [x, y]) (hox : opd x = some ox) (hoy : opd y = some oy) (hx : veval (.mn ox oy) fr F = some z) :
    Gives false P w G fr F (Builtin.min_ ts ty (args.map a.eval)) z := by
  simp only [veval] at hx
  split at hx
  · rename_i k i k' j h1 h2
    simp only [Option.some.injEq] at hx
    subst hx
    obtain ⟨e1, _⟩ := ev_val h hox h1
    obtain ⟨e2, _⟩ := ev_val h hoy h2
    refine ⟨_, fun w' _ => ?_, VR_mk rfl⟩
    simp [Builtin.min_, ha, e1, e2, Builtin.min2]
  · simp at hx

/-! Struct literals. -/
theorem foldSet (off : Nat) : ∀ (l : List Value) (j0 : Nat) (cells : Array Value), off + j0 + l.length ≤ cells.size →
    ((l.zipIdx j0).foldl (fun cs (p : Value × Nat) => cs.setIfInBounds (off + p.2) p.1) cells).toList = splice cells.toList (off + j0) l
  | [], j0, cells, _ => by simp [splice]
  | v :: l, j0, cells, h => by
    simp only [List.length_cons] at h
    simp only [List.zipIdx_cons, List.foldl_cons]
    rw [foldSet off l (j0 + 1) _ (by simp; omega)]
    simp only [splice, Array.toList_setIfInBounds, List.length_cons]
    apply List.ext_getElem?
    intro i
    simp only [List.getElem?_append, List.length_take, List.length_set, Array.length_toList, List.getElem?_take, List.getElem?_drop, List.getElem?_set, List.getElem?_cons]
    repeat' split
    all_goals (first | rfl | omega | (congr 1; omega) | skip)
    all_goals simp_all
    all_goals (first | rfl | omega | (congr 1; omega) | skip)

theorem RVs_splice {R : Rt} {f : Nat} {cs ys : List AV} {us vs : List Value} {off : Nat} (h1 : RVs w G R f cs us) (h2 : RVs w G R f ys vs) (hle : off + ys.length ≤ cs.length) : RVs w G R f (splice cs off ys) (splice us off vs) := by
  obtain ⟨l1, g1⟩ := (RVs_iff _ _).1 h1
  obtain ⟨l2, g2⟩ := (RVs_iff _ _).1 h2
  refine (RVs_iff _ _).2 ⟨by simp [splice]; omega, ?_⟩
  intro j c hj
  simp only [splice, List.getElem?_append, List.length_take, List.getElem?_take, List.getElem?_drop] at hj ⊢
  have e1 : min off us.length = off := by omega
  have e2 : min off cs.length = off := by omega
  rw [e2] at hj
  rw [e1]
  by_cases a1 : j < off
  · simp only [a1, if_true] at hj ⊢; exact g1 j c hj
  · simp only [a1, if_false] at hj ⊢
    by_cases a2 : j - off < ys.length
    · rw [if_pos a2] at hj; rw [if_pos (by omega)]; exact g2 _ c hj
    · rw [if_neg a2] at hj; rw [if_neg (by omega)]
      have := g1 _ c hj
      rw [← l2]; exact this

theorem VR_cells' {R : Rt} {f : Nat} {x : AV} {u : Value} (h : VR w G R f x u) (hn : ntup x = true) : u.cells.toList = flatV u := by
  obtain ⟨hs, _, _⟩ := h
  cases hx : x.one with
  | true =>
    have hu : u.oneCell' = true := by cases x <;> simp_all [Shape, AV.one]
    rw [cells_of_one hu, flatV_of_one hu]
  | false =>
    cases x <;> simp [AV.one] at hx
    · obtain ⟨us, hus, _⟩ := hs; rw [hus]; rfl
    · simp [ntup] at hn

theorem fill_sound (h : Rel w G n a fr F) (pl : Nat → Option (Nat × Nat)) : ∀ (parts : List (Nat × Operand)) (ps : List (Nat × Nat × Opd)) (cs : List AV) (cells : Array Value) (cs' : List AV), compParts pl parts = some ps → fillA fr cs ps = some cs' →
    RVs w G (rootsOf (fr :: F)) F.length cs cells.toList → (∀ v ∈ cells.toList, v.oneCell' = true) →
    ∃ cells', Instr.fill pl cells (parts.map fun p => (p.1, a.eval p.2)) = some cells' ∧ RVs w G (rootsOf (fr :: F)) F.length cs' cells'.toList ∧ (∀ v ∈ cells'.toList, v.oneCell' = true)
  | [], ps, cs, cells, cs', hc, hf, hr, ho => by
    simp only [compParts, Option.some.injEq] at hc
    subst hc
    simp only [fillA, Option.some.injEq] at hf
    subst hf
    exact ⟨cells, rfl, hr, ho⟩
  | (i, x) :: parts, ps, cs, cells, cs', hc, hf, hr, ho => by
    simp only [compParts] at hc
    split at hc
    · rename_i off sz ox l h1 h2 h3
      simp only [Option.some.injEq] at hc
      subst hc
      simp only [fillA] at hf
      split at hf
      · rename_i y hy
        split at hf
        · rename_i hh
          obtain ⟨k1, k2, k3⟩ := hh
          have hv := h.ev hy
          rw [opd_to h2] at hv
          have hcl := VR_cells' hv k1
          have hfl := hv.1.len
          have hlen : cs.length = cells.size := by have := ((RVs_iff _ _).1 hr).1; simpa using this
          have hsz : (a.eval x).cells.size = sz := by rw [← Array.length_toList, hcl, hfl, k2]
          have hfold : ((a.eval x).cells.zipIdx.foldl (fun cs (c, j) => cs.setIfInBounds (off + j) c) cells).toList = splice cells.toList off (flatV (a.eval x)) := by
            have := foldSet off (a.eval x).cells.toList 0 cells (by rw [Array.length_toList]; omega)
            rw [Nat.add_zero, hcl] at this
            rw [← this, ← Array.foldl_toList, Array.toList_zipIdx, hcl]
          obtain ⟨cells', m1, m2, m3⟩ := fill_sound h pl parts l _ ((a.eval x).cells.zipIdx.foldl (fun cs (c, j) => cs.setIfInBounds (off + j) c) cells) cs' h3 hf
            (by rw [hfold]; exact RVs_splice hr hv.2.2 (by omega))
            (by
              rw [hfold]
              intro v hvm
              simp only [splice, List.mem_append] at hvm
              rcases hvm with hvm | hvm | hvm
              · exact ho v (List.mem_of_mem_take hvm)
              · exact hv.2.1 v hvm
              · exact ho v (List.mem_of_mem_drop hvm))
          refine ⟨cells', ?_, m2, m3⟩
          simp only [List.map_cons, Instr.fill, h1]
          rw [if_neg (by simp; omega)]
          exact m1
        · simp at hf
      · simp at hf
    · simp at hc

theorem RVs_vals {R : Rt} {f : Nat} : ∀ (z : List Value), RVs w G R f (z.map AV.v) z
  | [] => by simp [RVs]
  | v :: z => by
    simp only [List.map_cons, RVs]
    exact ⟨v, z, rfl, by cases f <;> simp [RV], RVs_vals z⟩

theorem gives_bld (h : Rel w G n a fr F) {t : TypeId} {parts : Array (Nat × Operand)} {zc : List Value} {pl : Nat → Option (Nat × Nat)} {ps : List (Nat × Nat × Opd)} {z : AV} (hp : partPl P t = some (zc, pl)) (ho : zc.all Value.oneCell' = true) (hc : compParts pl parts.toList = some ps)
    (hx : veval (.bld zc ps) fr F = some z) : Gives false P w G fr F (Instr.build t (parts.map fun (i, x) => (i, a.eval x))) z := by
  simp only [veval, Option.map_eq_some_iff] at hx
  obtain ⟨cs, hcs, rfl⟩ := hx
  obtain ⟨cells', h1, h2, h3⟩ := fill_sound h pl parts.toList ps (zc.map .v) zc.toArray cs hc hcs (by simpa using RVs_vals zc) (by simpa using ho)
  refine ⟨.agg cells', fun w' _ => ?_, ⟨cells', rfl, by have := ((RVs_iff _ _).1 h2).1; simpa using this.symm⟩, by simpa [flatV] using h3, by simpa [flatV, AV.cells] using h2⟩
  refine run_build w' t _ cells' ?_
  have hl : (parts.map fun (i, x) => (i, a.eval x)).toList = parts.toList.map fun p => (p.1, a.eval p.2) := by simp
  rw [hl]
  unfold partPl at hp
  unfold Program.built
  split at hp
  · rename_i it nn e hi hu
    split at hp
    · rename_i zv ie hz hie
      simp only [Option.some.injEq, Prod.mk.injEq] at hp
      obtain ⟨rfl, rfl⟩ := hp
      simp only [hi, hu, hz, hie]
      simpa using h1
    · simp at hp
  · rename_i it fields hi hu
    split at hp
    · rename_i zv places hz hpl
      simp only [Option.some.injEq, Prod.mk.injEq] at hp
      obtain ⟨rfl, rfl⟩ := hp
      simp only [hi, hu, hz, hpl]
      simpa using h1
    · simp at hp
  · simp at hp

end
end Go.Proofs.Ythlehngbadianaa.Ai
/- The value operations, all together. -/
set_option linter.unusedVariables false
set_option linter.unusedSimpArgs false
namespace Go.Proofs.Ythlehngbadianaa.Ai
open Go Go.RowKit

section
variable {P : Program} {w : World} {G : Gh} {n : Nat} {a : Act} {fr : Fr} {F : List Fr}

def lenArgs (t : TypeId) : Array TypeId := #[t]

theorem gives_lns (h : Rel w G n a fr F) {ts : Array TypeId} {args : Array Operand} {t ty : TypeId} {x : Operand} {ox : Opd} {z : AV} (ht : ts[0]? = some t) (hxa : args[0]? = some x) (hu : P.underlying t = some .string) (hox : opd x = some ox)
    (hx : veval (.lns ox) fr F = some z) : Gives false P w G fr F (Builtin.len_ ts ty (args.map a.eval)) z := by
  simp only [veval, Option.map_eq_some_iff] at hx
  obtain ⟨s, hs, rfl⟩ := hx
  refine ⟨.int .i64 s.size, fun w' _ => ?_, VR_mk rfl⟩
  have e : (args.map a.eval)[0]? = some (.string s) := by rw [Array.getElem?_map, hxa, Option.map_some, ← opd_to hox, h.str hs]
  simp only [Builtin.len_, ht, e, Sem.run_bind, run_underlying hu, Result.andThen_ok, Sem.run_pure]
  rfl

theorem gives_cstlen (h : Rel w G n a fr F) {ts : Array TypeId} {args : Array Operand} {t ty e : TypeId} {x : Operand} {N : Nat} {z : AV} (ht : ts[0]? = some t) (hxa : args[0]? = some x) (hu : P.underlying t = some (.array N e))
    (hx : veval (.cst (.int .i64 N)) fr F = some z) : Gives false P w G fr F (Builtin.len_ ts ty (args.map a.eval)) z := by
  simp only [veval, Value.oneCell', if_true, Option.some.injEq] at hx
  subst hx
  refine ⟨.int .i64 N, fun w' _ => ?_, VR_mk rfl⟩
  have e : (args.map a.eval)[0]? = some (a.eval x) := by rw [Array.getElem?_map, hxa]; rfl
  simp only [Builtin.len_, ht, e, Sem.run_bind, run_underlying hu, Result.andThen_ok, Sem.run_pure]
  rfl

theorem gives_lnl (h : Rel w G n a fr F) {ts : Array TypeId} {args : Array Operand} {t ty e : TypeId} {x : Operand} {ox : Opd} {es : Nat} {z : AV} (ht : ts[0]? = some t) (hxa : args[0]? = some x) (hu : P.underlying t = some (.slice e)) (hox : opd x = some ox)
    (hx : veval (.lnl ox es) fr F = some z) : Gives false P w G fr F (Builtin.len_ ts ty (args.map a.eval)) z := by
  have main : ∀ l ad cap, a.eval ox.to = .slice ad l cap → z = .v (.int .i64 (l : Nat)) → Gives false P w G fr F (Builtin.len_ ts ty (args.map a.eval)) z := by
    intro l ad cap he hz
    subst hz
    refine ⟨.int .i64 l, fun w' _ => ?_, VR_mk rfl⟩
    have e : (args.map a.eval)[0]? = some (.slice ad l cap) := by rw [Array.getElem?_map, hxa, Option.map_some, ← opd_to hox, he]
    simp only [Builtin.len_, ht, e, Sem.run_bind, run_underlying hu, Result.andThen_ok, Sem.run_pure]
    rfl
  simp only [veval] at hx
  cases h1 : fr.ev ox with
  | none => simp [h1] at hx
  | some y =>
    simp only [h1, Option.map_eq_some_iff] at hx
    obtain ⟨ys, h5, rfl⟩ := hx
    simp only [rdS] at h5
    split at h5
    · rename_i hnil
      simp only [Option.some.injEq] at h5
      subst h5
      have hone : y.one = true := by cases y <;> simp_all [nilsl, AV.one]
      have hv := (VR_one hone).1 (h.ev h1)
      exact main 0 none 0 (nilsl_sound _ _ _ hnil hv.2) rfl
    · split at h5
      · rename_i xs p es' off len k hsl
        split at h5
        · simp only [Option.some.injEq] at h5
          obtain ⟨_, _, _, _, hle, ad, cap, hu1, _⟩ := h.slcell h1 hsl
          have hyl : ys.length = len := by rw [← h5]; simp; omega
          exact main len _ cap hu1 (by rw [hyl])
        · simp at h5
      · simp at h5

theorem tupShape_at : ∀ (sh : List (Option Nat)) (vs : List Value) (i : Nat), TupShape sh vs → 
    (sh[i]? = some none → ∃ v, vs[i]? = some v ∧ v.oneCell' = true ∧ (vs.flatMap fun x => x.cells.toList)[tupLen (sh.take i)]? = some v) ∧
    (∀ m, sh[i]? = some (some m) → ∃ arr : Array Value, vs[i]? = some (.agg arr) ∧ arr.size = m ∧ ∀ j, j < m → (vs.flatMap fun x => x.cells.toList)[tupLen (sh.take i) + j]? = arr[j]?)
  | [], vs, i, h => by simp
  | none :: sh, vs, i, h => by
    obtain ⟨v, r, rfl, h1, h2⟩ := h
    cases i with
    | zero => simp [tupLen, cells_of_one h1, h1]
    | succ i =>
      obtain ⟨k1, k2⟩ := tupShape_at sh r i h2
      simp only [List.getElem?_cons_succ, List.take_succ_cons, tupLen, List.flatMap_cons, cells_of_one h1]
      constructor
      · intro hi
        obtain ⟨v', a1, a2, a3⟩ := k1 hi
        exact ⟨v', a1, a2, by simpa using a3⟩
      · intro m hi
        obtain ⟨arr, a1, a2, a3⟩ := k2 m hi
        refine ⟨arr, a1, a2, fun j hj => ?_⟩
        rw [← a3 j hj, show tupLen (sh.take i) + 1 + j = (tupLen (sh.take i) + j) + 1 by omega]
        simp
  | some k :: sh, vs, i, h => by
    obtain ⟨arr0, r, rfl, h1, h2⟩ := h
    cases i with
    | zero =>
      refine ⟨by simp, ?_⟩
      intro m hm
      simp at hm
      subst hm
      refine ⟨arr0, rfl, h1, fun j hj => ?_⟩
      have hja : j < arr0.size := by omega
      simp only [List.take_zero, tupLen, Nat.zero_add, List.flatMap_cons, Value.cells]
      rw [List.getElem?_append_left (by simpa using hja)]
      simp
    | succ i =>
      obtain ⟨k1, k2⟩ := tupShape_at sh r i h2
      simp only [List.getElem?_cons_succ, List.take_succ_cons, tupLen, List.flatMap_cons, Value.cells]
      have hl : arr0.toList.length = k := by simpa using h1
      constructor
      · intro hi
        obtain ⟨v', a1, a2, a3⟩ := k1 hi
        refine ⟨v', a1, a2, ?_⟩
        rw [List.getElem?_append_right (by omega), hl, show tupLen (sh.take i) + k - k = tupLen (sh.take i) by omega]
        exact a3
      · intro m hi
        obtain ⟨arr, a1, a2, a3⟩ := k2 m hi
        refine ⟨arr, a1, a2, fun j hj => ?_⟩
        rw [List.getElem?_append_right (by omega), hl, show tupLen (sh.take i) + k + j - k = tupLen (sh.take i) + j by omega]
        exact a3 j hj

theorem gives_ext (h : Rel w G n a fr F) {t : Operand} {ot : Opd} {i : Nat} {z : AV} (hot : opd t = some ot) (hx : veval (.ext ot i) fr F = some z) : Gives false P w G fr F (Instr.extract (a.eval t) i) z := by
  simp only [veval] at hx
  split at hx
  · rename_i sh cs h1
    have hv := h.ev h1
    rw [← opd_to hot]
    obtain ⟨⟨vs, hu, hsh, hlen⟩, hone, hrs⟩ := hv
    rw [hu] at hone hrs ⊢
    simp only [AV.cells, flatV] at hone hrs
    obtain ⟨k1, k2⟩ := tupShape_at sh vs.toList i hsh
    obtain ⟨_, hr⟩ := (RVs_iff _ _).1 hrs
    split at hx
    · rename_i hi
      obtain ⟨v, a1, a2, a3⟩ := k1 hi
      refine ⟨v, fun w' _ => ?_, ?_⟩
      · have : vs[i]? = some v := by simpa using a1
        simp only [Instr.extract, this, Sem.run_pure]
      · obtain ⟨u, hu', hru⟩ := hr _ _ hx
        rw [a3] at hu'
        obtain rfl := Option.some.inj hu'
        exact (VR_one (RV_flat hru).1).2 ⟨a2, hru⟩
    · rename_i m hi
      simp only [Option.some.injEq] at hx
      subst hx
      obtain ⟨arr, a1, a2, a3⟩ := k2 m hi
      have hfl := TupShape.len sh vs.toList hsh
      -- the component's cells lie within
      have hin : tupLen (sh.take i) + m ≤ cs.length := by
        rw [← hlen]
        have : sh = sh.take i ++ some m :: sh.drop (i + 1) := by
          have hlt : i < sh.length := (List.getElem?_eq_some_iff.1 hi).1
          have := (List.take_append_drop i sh).symm
          rw [List.drop_eq_getElem_cons hlt, (List.getElem?_eq_some_iff.1 hi).2] at this
          exact this
        have hta : ∀ (l1 l2 : List (Option Nat)), tupLen (l1 ++ l2) = tupLen l1 + tupLen l2 := by
          intro l1 l2
          induction l1 with
          | nil => simp [tupLen]
          | cons c l1 ih => cases c <;> simp only [List.cons_append, tupLen, ih] <;> omega
        have e := congrArg tupLen this
        rw [hta] at e
        simp only [tupLen] at e
        omega
      refine ⟨.agg arr, fun w' _ => ?_, ⟨arr, rfl, ?_⟩, ?_, ?_⟩
      · have : vs[i]? = some (.agg arr) := by simpa using a1
        simp only [Instr.extract, this, Sem.run_pure]
      · simp only [List.length_take, List.length_drop]; omega
      · intro v hv
        simp only [flatV, Array.mem_toList_iff] at hv
        obtain ⟨j, hj, rfl⟩ := Array.getElem_of_mem hv
        have := a3 j (by omega)
        rw [Array.getElem?_eq_getElem hj] at this
        exact hone _ (List.mem_of_getElem? this)
      · simp only [AV.cells, flatV]
        refine (RVs_iff _ _).2 ⟨?_, ?_⟩
        · simp only [List.length_take, List.length_drop, Array.length_toList]; omega
        · intro j c hc
          rw [List.getElem?_take] at hc
          split at hc
          · rename_i hj
            rw [List.getElem?_drop] at hc
            obtain ⟨u, hu', hru⟩ := hr _ _ hc
            rw [a3 j hj] at hu'
            exact ⟨u, by simpa using hu', hru⟩
          · simp at hc
    · simp at hx
  · simp at hx

theorem gives_fv (h : Rel w G n a fr F) {t : TypeId} {fields : Array Field} {fl : Field} {f : Nat} {x : Operand} {ox : Opd} {m : Option Nat} {z : AV} (hu : P.underlying t = some (.struct fields)) (hf : fields[f]? = some fl) (hm : loadT P fl.type = some m)
    (hox : opd x = some ox) (hx : veval (.fv ox fl.offset m) fr F = some z) : Gives false P w G fr F (Instr.field t (a.eval x) f) z := by
  simp only [veval] at hx
  split at hx
  · rename_i cs h1
    obtain ⟨⟨us, hue, hlen⟩, hone, hrs⟩ := h.ev h1
    rw [← opd_to hox, hue]
    rw [hue] at hone hrs
    simp only [AV.cells, flatV] at hone hrs
    obtain ⟨_, hr⟩ := (RVs_iff _ _).1 hrs
    simp only [loadT] at hm
    cases hd : P.underlying fl.type with
    | none => simp [hd] at hm
    | some d =>
      simp only [hd] at hm
      split at hx
      · have hag : isAggD d = false := by
          cases hag : isAggD d with
          | false => rfl
          | true => rw [hag] at hm; simp only [if_true, Option.bind_eq_some_iff] at hm; obtain ⟨q, _, hq⟩ := hm; split at hq <;> simp at hq
        obtain ⟨u, hu', hru⟩ := hr _ _ hx
        refine ⟨u, fun w' _ => ?_, (VR_one (RV_flat hru).1).2 ⟨hone _ (List.mem_of_getElem? hu'), hru⟩⟩
        have : us[fl.offset]? = some u := by simpa using hu'
        simp only [Instr.field, asAgg, part, Sem.run_bind, run_underlying hu, hf, Result.andThen_ok, Sem.run_pure, run_isAgg hd, hag, Bool.false_eq_true, if_false, this]
      · rename_i s
        split at hx
        · rename_i hle
          simp only [Option.some.injEq] at hx
          subst hx
          have hag : isAggD d = true := by
            cases hag : isAggD d with
            | true => rfl
            | false => rw [hag] at hm; simp at hm
          rw [hag] at hm
          simp only [if_true, Option.bind_eq_some_iff] at hm
          obtain ⟨s', hs', hs2⟩ := hm
          have hs0 : s' ≠ 0 := by intro e; simp [e] at hs2
          simp only [hs0, if_false, Option.some.injEq] at hs2
          subst hs2
          refine ⟨.agg (us.extract fl.offset (fl.offset + s')), fun w' _ => ?_, ⟨_, rfl, ?_⟩, ?_, ?_⟩
          · simp only [Instr.field, asAgg, part, Sem.run_bind, run_underlying hu, hf, Result.andThen_ok, Sem.run_pure, run_isAgg hd, hag, if_true, run_sizeOf hs']
          · simp only [Array.size_extract, List.length_take, List.length_drop]; omega
          · intro v hv
            simp only [flatV, Array.toList_extract] at hv
            exact hone v (List.mem_of_mem_drop (List.mem_of_mem_take hv))
          · simp only [AV.cells, flatV, Array.toList_extract]
            refine (RVs_iff _ _).2 ⟨?_, ?_⟩
            · simp only [List.extract_eq_take_drop, List.length_take, List.length_drop, Array.length_toList, hlen]
              omega
            · intro j c hc
              rw [List.getElem?_take] at hc
              split at hc
              · rename_i hj
                rw [List.getElem?_drop] at hc
                obtain ⟨u, hu', hru⟩ := hr _ _ hc
                refine ⟨u, ?_, hru⟩
                simp only [List.extract_eq_take_drop, List.getElem?_take, List.getElem?_drop]
                rw [if_pos (by omega)]
                exact hu'
              · simp at hc
        · simp at hx
  · simp at hx

theorem gives_nc (h : Rel w G n a fr F) {x : Operand} {ox : Opd} {z : AV} (hox : opd x = some ox) (hx : veval (.nc ox) fr F = some z) : ∃ p, a.eval x = .pointer (some p) ∧ VR w G (rootsOf (fr :: F)) F.length z (.pointer (some p)) := by
  simp only [veval] at hx
  cases h1 : fr.ev ox with
  | none => simp [h1] at hx
  | some y =>
    simp only [h1] at hx
    cases h3 : deref (fr :: F) y with
    | none => simp [h3] at hx
    | some q =>
      obtain ⟨y', p, k⟩ := q
      simp only [h3] at hx
      split at hx
      · rename_i hj
        obtain rfl := Option.some.inj hx
        obtain ⟨_, _, _, _, _, hu1⟩ := h.deref h1 h3 hj
        refine ⟨_, by rw [← opd_to hox]; exact hu1, ?_⟩
        rw [← hu1]
        exact h.ev h1
      · simp at hx

theorem mapM_opd : ∀ (l : List Operand) (os : List Opd), l.mapM opd = some os → os.map Opd.to = l
  | [], os, h => by simp at h; subst h; rfl
  | x :: l, os, h => by
    simp only [List.mapM_cons, Option.pure_def, Option.bind_eq_bind, Option.bind_eq_some_iff, Option.some.injEq] at h
    obtain ⟨o, ho, r, hr, rfl⟩ := h
    simp [opd_to ho, mapM_opd l r hr]

theorem mapM_ev (h : Rel w G n a fr F) : ∀ (os : List Opd) (cs : List AV), os.mapM fr.ev = some cs → cs.all AV.one = true → RVs w G (rootsOf (fr :: F)) F.length cs (os.map fun o => a.eval o.to)
  | [], cs, hm, _ => by simp at hm; subst hm; simp [RVs]
  | o :: os, cs, hm, ha => by
    simp only [List.mapM_cons, Option.pure_def, Option.bind_eq_bind, Option.bind_eq_some_iff, Option.some.injEq] at hm
    obtain ⟨c, hc, r, hr, rfl⟩ := hm
    simp only [List.all_cons, Bool.and_eq_true] at ha
    simp only [RVs]
    exact ⟨_, _, rfl, ((VR_one ha.1).1 (h.ev hc)).2, mapM_ev h os r hr ha.2⟩

theorem gives_fnv (h : Rel w G n a fr F) {f : FuncId} {first captured : Array Operand} {oc : List Opd} {z : AV} (hfi : first.isEmpty = true) (hoc : captured.toList.mapM opd = some oc) (hx : veval (.fnv f oc) fr F = some z) :
    Gives false P w G fr F (Instr.makeFunc (.func f) (first.map a.eval) (captured.map a.eval)) z := by
  simp only [veval, Option.bind_eq_some_iff] at hx
  obtain ⟨cs, hcs, hx⟩ := hx
  split at hx
  · rename_i ha
    obtain rfl := Option.some.inj hx
    have hf0 : first = #[] := by simpa using hfi
    subst hf0
    refine ⟨.func (.func f) #[] (captured.map a.eval), fun w' _ => by simp [Instr.makeFunc], (VR_one rfl).2 ⟨rfl, ?_⟩⟩
    have hr := mapM_ev h oc cs hcs ha
    have he : (oc.map fun o => a.eval o.to) = (captured.map a.eval).toList := by
      rw [Array.toList_map, ← mapM_opd _ _ hoc]; simp
    rw [he] at hr
    cases hF : F.length <;> (simp only [RV]; rw [hF] at hr; exact ⟨_, rfl, hr⟩)
  · simp at hx

def VE.isLd : VE → Bool
  | .ld _ _ => true
  | _ => false

/-- Each value operation gives what is said. -/
theorem veval_sound (h : Rel w G n a fr F) {o : Oper} {e : VE} {z : AV} (hc : compV P o.op = some e) (hx : veval e fr F = some z) :
    ∃ v, (∀ w', (e.isLd = true → CellsLe w w') → (execOp a.eval o).run P w' = .ok (.value v) w') ∧ VR w G (rootsOf (fr :: F)) F.length z v := by
  have fin : ∀ (b : Bool) (s : Sem Value), Gives b P w G fr F s z → ∃ v, (∀ w', (b = true → CellsLe w w') → ((do pure (.value (← s)) : Sem Next)).run P w' = .ok (.value v) w') ∧ VR w G (rootsOf (fr :: F)) F.length z v := by
    rintro b s ⟨v, h1, h2⟩
    exact ⟨v, fun w' hw => by simp [h1 w' hw], h2⟩
  unfold execOp
  cases hop : o.op <;> simp only [hop, compV] at hc ⊢
  case move x => exact ⟨_, fun _ _ => rfl, gives_mv h hc hx⟩
  case assign x => exact ⟨_, fun _ _ => rfl, gives_mv h hc hx⟩
  case pick c x y =>
    simp only [Option.bind_eq_bind, Option.bind_eq_some_iff, Option.some.injEq] at hc
    obtain ⟨oc, hoc, ox, hox, oy, hoy, rfl⟩ := hc
    simp only [veval] at hx
    split at hx
    · rename_i t h1
      obtain ⟨e1, _⟩ := ev_val h hoc h1
      rw [e1]
      cases t with
      | true => exact ⟨a.eval x, fun _ _ => by simp [asBool], by rw [← opd_to hox]; exact h.ev hx⟩
      | false => exact ⟨a.eval y, fun _ _ => by simp [asBool], by rw [← opd_to hoy]; exact h.ev hx⟩
    · simp at hx
  case binOp op t x y yt =>
    simp only [Option.bind_eq_bind, Option.bind_eq_some_iff, Option.some.injEq] at hc
    obtain ⟨ox, hox, oy, hoy, rfl⟩ := hc
    cases hu : P.underlying t with
    | none =>
      have e : eqK P op t ox oy = .bin op ox oy := by unfold eqK; rw [hu]; cases op <;> rfl
      rw [e] at hx ⊢
      exact fin false _ (gives_bin h hox hoy hx)
    | some d =>
      cases d <;> cases op <;> (simp only [eqK, hu] at hx ⊢; first
        | exact fin false _ (gives_bin h hox hoy hx)
        | exact fin false _ (gives_eqb h (ng := false) hu hox hoy hx)
        | exact fin false _ (gives_eqb h (ng := true) hu hox hoy hx)
        | exact fin false _ (gives_eqp h (ng := false) hu hox hoy hx)
        | exact fin false _ (gives_eqp h (ng := true) hu hox hoy hx)
        | exact fin false _ (gives_eqs h (ng := false) hu hox hoy hx)
        | exact fin false _ (gives_eqs h (ng := true) hu hox hoy hx))
  case unOp op t x =>
    simp only [Option.map_eq_some_iff] at hc
    obtain ⟨ox, hox, rfl⟩ := hc
    exact fin false _ (gives_un h hox hx)
  case convert s d x =>
    split at hc
    · rename_i ks k hs hd
      simp only [Option.map_eq_some_iff] at hc
      obtain ⟨ox, hox, rfl⟩ := hc
      exact fin false _ (gives_cvi h hs hd hox hx)
    · simp at hc
  case fieldAddr s x f =>
    split at hc
    · rename_i fields hs
      simp only [Option.bind_eq_bind, Option.bind_eq_some_iff] at hc
      obtain ⟨fl, hfl, m, hm, hc⟩ := hc
      split at hc
      · simp at hc
      · rename_i hm0
        simp only [Option.bind_eq_some_iff, Option.some.injEq] at hc
        obtain ⟨ox, hox, rfl⟩ := hc
        exact fin false _ (gives_fa h hs hfl hm hm0 hox hx)
    · simp at hc
  case indexAddr t x i =>
    split at hc
    · rename_i e' hu
      simp only [Option.bind_eq_bind, Option.bind_eq_some_iff, Option.some.injEq] at hc
      obtain ⟨ox, hox, oi, hoi, es, hes, rfl⟩ := hc
      exact fin false _ (gives_ia h hu hes hox hoi hx)
    · rename_i N e' hu
      simp only [Option.bind_eq_bind, Option.bind_eq_some_iff, Option.some.injEq] at hc
      obtain ⟨ox, hox, oi, hoi, es, hes, rfl⟩ := hc
      exact fin false _ (gives_iaa h hu hes hox hoi hx)
    · simp at hc
  case index t x i =>
    split at hc
    · rename_i hu
      simp only [Option.bind_eq_bind, Option.bind_eq_some_iff, Option.some.injEq] at hc
      obtain ⟨ox, hox, oi, hoi, rfl⟩ := hc
      exact fin false _ (gives_is h hu hox hoi hx)
    · simp at hc
  case load t x =>
    simp only [Option.bind_eq_bind, Option.bind_eq_some_iff, Option.some.injEq] at hc
    obtain ⟨ox, hox, m, hm, rfl⟩ := hc
    exact fin true _ (gives_ld h hm hox hx)
  case slice t x lo hi mx =>
    split at hc
    · rename_i hu
      split at hc
      · simp at hc
      · rename_i hmx
        simp only [Option.bind_eq_bind, Option.bind_eq_some_iff, Option.some.injEq] at hc
        obtain ⟨ox, hox, ol, hol, oh, hoh, rfl⟩ := hc
        have : mx = none := by simpa using hmx
        subst this
        exact fin false _ (gives_ss h hu hox hol hoh hx)
    · rename_i e' hu
      split at hc
      · simp at hc
      · rename_i hmx
        simp only [Option.bind_eq_bind, Option.bind_eq_some_iff, Option.some.injEq] at hc
        obtain ⟨ox, hox, ol, hol, oh, hoh, om, hom, es, hes, rfl⟩ := hc
        exact fin false _ (gives_sl h hu hes (by simpa [Option.isSome_iff_ne_none] using hmx) hox hol hoh hom hx)
    · rename_i N e' hu
      split at hc
      · simp at hc
      · rename_i hmx
        simp only [Option.bind_eq_bind, Option.bind_eq_some_iff, Option.some.injEq] at hc
        obtain ⟨ox, hox, ol, hol, oh, hoh, om, hom, es, hes, rfl⟩ := hc
        exact fin false _ (gives_sla h hu hes (by simpa [Option.isSome_iff_ne_none] using hmx) hox hol hoh hom hx)
    · simp at hc
  case extract t i =>
    simp only [Option.map_eq_some_iff] at hc
    obtain ⟨ot, hot, rfl⟩ := hc
    exact fin false _ (gives_ext h hot hx)
  case field t x f =>
    split at hc
    · rename_i fields hs
      simp only [Option.bind_eq_bind, Option.bind_eq_some_iff, Option.some.injEq] at hc
      obtain ⟨fl, hfl, ox, hox, m, hm, rfl⟩ := hc
      exact fin false _ (gives_fv h hs hfl hm hox hx)
    · simp at hc
  case nilCheck x =>
    simp only [Option.map_eq_some_iff] at hc
    obtain ⟨ox, hox, rfl⟩ := hc
    obtain ⟨p, h1, h2⟩ := gives_nc h hox hx
    rw [h1]
    exact ⟨_, fun _ _ => rfl, h2⟩
  case makeFunc fn first captured =>
    cases fn <;> simp only at hc
    case func f =>
      split at hc
      · rename_i hfi
        simp only [Option.map_eq_some_iff] at hc
        obtain ⟨oc, hoc, rfl⟩ := hc
        exact fin false _ (gives_fnv h hfi hoc hx)
      · simp at hc
    all_goals simp at hc
  case call c =>
    obtain ⟨callee, args, argTypes⟩ := c
    cases callee
    case builtin b =>
      cases b
      case len =>
        simp only at hc
        split at hc
        · rename_i t x ht hxa
          simp only [resolve, Sem.run_bind, Sem.run_pure, Result.andThen_ok, invoke, builtin]
          split at hc
          · rename_i hu
            simp only [Option.map_eq_some_iff] at hc
            obtain ⟨ox, hox, rfl⟩ := hc
            have := fin false _ (gives_lns (ty := o.type) h ht hxa hu hox hx)
            simpa [VE.isLd] using this
          · rename_i e' hu
            simp only [Option.bind_eq_bind, Option.bind_eq_some_iff, Option.some.injEq] at hc
            obtain ⟨ox, hox, es, hes, rfl⟩ := hc
            have := fin false _ (gives_lnl (ty := o.type) h ht hxa hu hox hx)
            simpa [VE.isLd] using this
          · rename_i N e' hu
            simp only [Option.some.injEq] at hc
            subst hc
            have := fin false _ (gives_cstlen (ty := o.type) h ht hxa hu hx)
            simpa [VE.isLd] using this
          · simp at hc
        · simp at hc
      case min =>
        simp only at hc
        split at hc
        · rename_i x y hl
          simp only [Option.bind_eq_bind, Option.bind_eq_some_iff, Option.some.injEq] at hc
          obtain ⟨ox, hox, oy, hoy, rfl⟩ := hc
          simp only [resolve, Sem.run_bind, Sem.run_pure, Result.andThen_ok, invoke, builtin]
          have := fin false _ (gives_mn (ts := argTypes) (ty := o.type) h hl hox hoy hx)
          simpa [VE.isLd] using this
        · simp at hc
      all_goals (first | (simp at hc; done) | exact absurd hc (by simp))
    all_goals (first | (simp at hc; done) | exact absurd hc (by simp))
  case build t parts =>
    split at hc
    · rename_i zc pl hp
      split at hc
      · rename_i ho
        simp only [Option.map_eq_some_iff] at hc
        obtain ⟨ps, hps, rfl⟩ := hc
        exact fin false _ (gives_bld h hp ho hps hx)
      · simp at hc
    · simp at hc
  all_goals simp at hc

end

end Go.Proofs.Ythlehngbadianaa.Ai
/- Steps, regions, code, calls: the rules. -/
set_option linter.unusedVariables false
set_option linter.unusedSimpArgs false
namespace Go.Proofs.Ythlehngbadianaa.Ai
open Go Go.RowKit

/-- A block that no frame owns. -/
def Un (G : Gh) (R : Rt) (b : Nat) : Prop := ∀ o : Owner, o.valid R → G.wr o.frame = true → o.blk G ≠ b

/-- The slots of d frames keep their shapes. -/
def Shp (d : Nat) (R R' : Rt) : Prop := ∀ f k x', f < d → R' f (.sl k) = some x' → ∃ x, R f (.sl k) = some x ∧ ∀ u, Shape x u → Shape x' u
theorem Shp.of_eq {d : Nat} {R R' : Rt} (h : ∀ f k, f < d → R' f (.sl k) = R f (.sl k)) : Shp d R R' := fun f k x' hf hx => ⟨x', by rw [← h f k hf]; exact hx, fun _ h => h⟩
theorem Shp.refl (d : Nat) (R : Rt) : Shp d R R := Shp.of_eq fun _ _ _ => rfl
theorem Shp.trans {d : Nat} {R R1 R2 : Rt} (h : Shp d R R1) (k : Shp d R1 R2) : Shp d R R2 := fun f j x hf hx => by
  obtain ⟨x1, h1, h2⟩ := k f j x hf hx
  obtain ⟨x0, h3, h4⟩ := h f j x1 hf h1
  exact ⟨x0, h3, fun u hu => h2 u (h4 u hu)⟩
theorem Shp.mono {d d' : Nat} {R R' : Rt} (h : Shp d R R') (hd : d' ≤ d) : Shp d' R R' := fun f k x hf hx => h f k x (by omega) hx
theorem rootsOf_lt (fr : Fr) (F : List Fr) (f : Nat) (b : Base) (h : f < F.length) : rootsOf (fr :: F) f b = rootsOf F f b := by
  simp only [rootsOf]; rw [if_neg (by omega)]
theorem Shp.cons (fr fr' : Fr) (F : List Fr) : Shp F.length (rootsOf (fr :: F)) (rootsOf (fr' :: F)) := Shp.of_eq fun f k hf => by rw [rootsOf_lt _ _ _ _ hf, rootsOf_lt _ _ _ _ hf]

/-- From one state to another one: what nobody owns stays as it is; what d frames' slots hold, too. -/
structure Tr (d : Nat) (w : World) (G : Gh) (R : Rt) (w' : World) (G' : Gh) (R' : Rt) : Prop where
  os : w'.os = w.os
  tape : w'.tape = w.tape
  output : w'.output = w.output
  size : w.heap.size ≤ w'.heap.size
  wr : G'.wr = G.wr
  tm : ∀ f k, f < d → G'.tm f k = G.tm f k
  keep : ∀ b, b < w.heap.size → Un G R b → w'.heap[b]? = w.heap[b]? ∧ Un G' R' b
  shp : Shp d R R'

theorem Tr.refl (d : Nat) (w : World) (G : Gh) (R : Rt) : Tr d w G R w G R := ⟨rfl, rfl, rfl, Nat.le_refl _, rfl, fun _ _ _ => rfl, fun _ _ h => ⟨rfl, h⟩, Shp.refl _ _⟩
theorem Tr.trans {d : Nat} {w w1 w2 : World} {G G1 G2 : Gh} {R R1 R2 : Rt} (h : Tr d w G R w1 G1 R1) (k : Tr d w1 G1 R1 w2 G2 R2) : Tr d w G R w2 G2 R2 :=
  ⟨k.os.trans h.os, k.tape.trans h.tape, k.output.trans h.output, Nat.le_trans h.size k.size, k.wr.trans h.wr, fun f j hf => (k.tm f j hf).trans (h.tm f j hf), fun b hb hu => by
    obtain ⟨h1, h2⟩ := h.keep b hb hu
    obtain ⟨h3, h4⟩ := k.keep b (Nat.lt_of_lt_of_le hb h.size) h2
    exact ⟨h3.trans h1, h4⟩, h.shp.trans k.shp⟩

theorem Un.weak {G G' : Gh} {R R' : Rt} (hw : G'.wr = G.wr) (h : ∀ o : Owner, o.valid R' → o.valid R ∧ o.blk G' = o.blk G) {b : Nat} (hu : Un G R b) : Un G' R' b := by
  intro o ho hwr e
  obtain ⟨h1, h2⟩ := h o ho
  exact hu o h1 (by rw [hw] at hwr; exact hwr) (by rw [← h2]; exact e)

theorem valid_setRoot_flat {R : Rt} {f : Nat} {b : Base} {x : AV} (hx : x.flat) {o : Owner} (ho : o.valid (setRoot R f b x)) (hb : ∀ t, b ≠ .bx t) : o.valid R := by
  cases o with
  | bx f1 t =>
    simp only [Owner.valid, setRoot] at ho ⊢
    rw [if_neg (fun e => hb t e.2.symm)] at ho
    exact ho
  | cell f1 b1 path j =>
    simp only [Owner.valid] at ho ⊢
    rcases ho with ⟨es, n, ho⟩ | ho
    · exact Or.inl ⟨es, n, (cellOf_setRoot_own hx ho rfl).2⟩
    · exact Or.inr (cellOf_setRoot_own hx ho rfl).2

theorem Tr.unset (fr : Fr) (F : List Fr) (w : World) (G : Gh) (dst : Option Nat) (v : Value) : Tr F.length w G (rootsOf (fr :: F)) w (G.setTm? F.length dst v) (rootsOf (fr.unset dst :: F)) := by
  cases dst with
  | none => exact Tr.refl _ _ _ _
  | some d =>
    refine ⟨rfl, rfl, rfl, Nat.le_refl _, rfl, ?_, ?_, Shp.cons _ _ _⟩
    · intro f k hf
      simp only [Gh.setTm?]
      rw [if_neg (fun e => by omega)]
    · intro b hb hu
      refine ⟨rfl, Un.weak (G := G) rfl ?_ hu⟩
      intro o ho
      exact ⟨(Weak.del fr F d).valid ho, by cases o <;> rfl⟩

section
variable {P : Program} {n : Nat}

abbrev Post := Fr → List Fr → Prop

/-- What a step may end in. -/
def Good (n : Nat) (fr : Fr) (F : List Fr) (w : World) (G : Gh) (K : Post) (a' : Act) (w' : World) : Prop :=
  ∃ G' fr' F', K fr' F' ∧ F'.length = F.length ∧ Rel w' G' n a' fr' F' ∧ Tr F.length w G (rootsOf (fr :: F)) w' G' (rootsOf (fr' :: F'))

theorem Good.trans {fr fr1 : Fr} {F F1 : List Fr} {w w1 : World} {G G1 : Gh} {K : Post} {a' : Act} {w' : World} (hl : F1.length = F.length) (ht : Tr F.length w G (rootsOf (fr :: F)) w1 G1 (rootsOf (fr1 :: F1)))
    (h : Good n fr1 F1 w1 G1 K a' w') : Good n fr F w G K a' w' := by
  obtain ⟨G', fr', F', h1, h2, h3, h4⟩ := h
  rw [hl] at h4 h2
  exact ⟨G', fr', F', h1, h2, h3, ht.trans h4⟩

/-- One operation. -/
def AOp (P : Program) (n : Nat) (o : Oper) (fr : Fr) (F : List Fr) (K : Post) : Prop :=
  ∀ w G a, Rel w G n a fr F → o.wp P a w (Good n fr F w G K) (fun _ _ _ => False)

theorem Oper.wp_mono' {o : Oper} {a : Act} {w : World} {K K' : Act → World → Prop} {Q : Exit → Act → World → Prop} (h : ∀ a w, K a w → K' a w) (hh : o.wp P a w K Q) : o.wp P a w K' Q := by
  simp only [Oper.wp, Oper.upon] at hh ⊢
  split at hh <;> rename_i hr
  · exact h _ _ hh
  · exact h _ _ hh
  · exact h _ _ hh
  · refine hh.mono ?_
    rintro e w'' he
    cases e with
    | returned v => exact h _ _ he
    | panicked c => exact he
    | outgrown => exact he
  · exact hh.mono fun v w'' hv => h _ _ hv
  · exact hh
  · exact hh.elim

/-- One operation; a calm one changes nothing that was there. -/
def AOpC (b : Bool) (P : Program) (n : Nat) (o : Oper) (fr : Fr) (F : List Fr) (K : Post) : Prop :=
  ∀ w G a, Rel w G n a fr F → o.wp P a w (fun a' w' => (b = true → Below w.heap.size w w') ∧ Good n fr F w G K a' w') (fun _ _ _ => False)

theorem AOp.c {o : Oper} {fr : Fr} {F : List Fr} {K : Post} (h : AOp P n o fr F K) : AOpC false P n o fr F K := fun w G a hr => Oper.wp_mono' (fun a' w' hg => ⟨by simp, hg⟩) (h w G a hr)
theorem AOpC.op {b : Bool} {o : Oper} {fr : Fr} {F : List Fr} {K : Post} (h : AOpC b P n o fr F K) : AOp P n o fr F K := fun w G a hr => Oper.wp_mono' (fun a' w' hg => hg.2) (h w G a hr)

theorem Rel.step {w : World} {G : Gh} {a : Act} {fr : Fr} {F : List Fr} (h : Rel w G n a fr F) {d : Nat} (hd : d < n) {x : AV} {v : Value} (hv : VR w G (rootsOf (fr :: F)) F.length x v) {K : Post} (hk : K (fr.set d x) F) :
    Good n fr F w G K (a.put (some d) v) w := by
  refine ⟨_, _, _, hk, rfl, h.set hd hv, rfl, rfl, rfl, Nat.le_refl _, rfl, ?_, ?_, Shp.cons _ _ _⟩
  · intro f k hf
    simp only [Gh.setTm]
    rw [if_neg (fun e => by omega)]
  · intro b hb hu
    refine ⟨rfl, Un.weak (G := G) rfl ?_ hu⟩
    intro o ho
    rw [rootsOf_set] at ho
    exact ⟨valid_setRoot_flat hv.flat ho (by simp), by cases o <;> rfl⟩

theorem AOp_val {o : Oper} {e : VE} {d : Nat} {fr : Fr} {F : List Fr} {K : Post} (hc : compV P o.op = some e) (hd : o.dst = some d) (hdn : d < n) {z : AV} (hx : veval e fr F = some z) (hk : K (fr.set d z) F) : AOp P n o fr F K := by
  intro w G a h
  obtain ⟨v, h1, h2⟩ := veval_sound h hc hx
  simp only [Oper.wp, h1 w (fun _ => CellsLe.refl w), Oper.upon, hd]
  exact h.step hdn h2 hk

/-! A region that keeps to its order. -/
def AOps (P : Program) (n : Nat) (ops : Array Oper) (l : List Nat) (fr : Fr) (F : List Fr) (K : Post) : Prop :=
  ∀ w G a, Rel w G n a fr F → wpOps P ops (fun e a' w' => e = .normal ∧ Good n fr F w G K a' w') l a w

theorem wpOps_mono {ops : Array Oper} {Q Q' : Exit → Act → World → Prop} (h : ∀ e a w, Q e a w → Q' e a w) : ∀ (l : List Nat) (a : Act) (w : World), wpOps P ops Q l a w → wpOps P ops Q' l a w
  | [], a, w, hh => h _ _ _ hh
  | i :: rest, a, w, hh => by
    simp only [wpOps] at hh ⊢
    cases ho : ops[i]? with
    | none => simp only [ho] at hh ⊢; exact wpOps_mono h rest _ _ hh
    | some o =>
      simp only [ho] at hh ⊢
      split
      · rename_i hw
        rw [if_pos hw] at hh
        rcases hh with hh | ⟨h1, a0, w0, h2⟩
        · left
          simp only [Oper.wp, Oper.upon] at hh ⊢
          split at hh <;> rename_i hr
          · exact wpOps_mono h rest _ _ hh
          · exact wpOps_mono h rest _ _ hh
          · exact wpOps_mono h rest _ _ hh
          · refine hh.mono ?_
            rintro e w'' he
            cases e with
            | returned v => exact wpOps_mono h rest _ _ he
            | panicked c => exact h _ _ _ he
            | outgrown => obtain ⟨a0, w0, hq⟩ := he; exact ⟨a0, w0, h _ _ _ hq⟩
          · exact hh.mono fun v w'' hv => wpOps_mono h rest _ _ hv
          · exact h _ _ _ hh
          · exact hh.elim
        · right; exact ⟨h1, a0, w0, h _ _ _ h2⟩
      · rename_i hw
        rw [if_neg hw] at hh
        exact wpOps_mono h rest _ _ hh

theorem AOps_nil {ops : Array Oper} {fr : Fr} {F : List Fr} {K : Post} (hk : K fr F) : AOps P n ops [] fr F K :=
  fun w G a h => ⟨rfl, G, fr, F, hk, rfl, h, Tr.refl _ _ _ _⟩

theorem AOps_cons {ops : Array Oper} {i : Nat} {rest : List Nat} {o : Oper} {fr : Fr} {F : List Fr} {K : Post} (ho : ops[i]? = some o) (hg : o.guard = none)
    (h : AOp P n o fr F (fun fr' F' => AOps P n ops rest fr' F' K)) : AOps P n ops (i :: rest) fr F K := by
  intro w G a hr
  have h1 := h w G a hr
  simp only [wpOps, ho]
  rw [if_pos (by simp [Region.wanted, hg])]
  left
  have key : ∀ a' w', Good n fr F w G (fun fr' F' => AOps P n ops rest fr' F' K) a' w' → wpOps P ops (fun e a' w' => e = .normal ∧ Good n fr F w G K a' w') rest a' w' := by
    rintro a' w' ⟨G', fr', F', hk, hl, hrel, htr⟩
    refine wpOps_mono ?_ rest a' w' (hk w' G' a' hrel)
    rintro e a2 w2 ⟨he, hg⟩
    exact ⟨he, hg.trans hl htr⟩
  simp only [Oper.wp, Oper.upon] at h1 ⊢
  split at h1 <;> rename_i hrun
  · exact key _ _ h1
  · exact key _ _ h1
  · exact key _ _ h1
  · refine h1.mono ?_
    rintro e w'' he
    cases e with
    | returned v => exact key _ _ he
    | panicked c => exact he.elim
    | outgrown => obtain ⟨_, _, hq⟩ := he; exact hq.elim
  · exact h1.mono fun v w'' hv => key _ _ hv
  · exact h1.elim
  · exact h1.elim

/-- A guarded operation: the slot of the test is known. -/
theorem AOps_guard {ops : Array Oper} {i j s : Nat} {want b : Bool} {rest : List Nat} {o oj : Oper} {fr : Fr} {F : List Fr} {K : Post} (ho : ops[i]? = some o) (hg : o.guard = some (j, want)) (hoj : ops[j]? = some oj) (hdj : oj.dst = some s)
    (hs : s < n) (hb : fr.sl.get s = some (.v (.bool b))) (hdst : ∀ d, o.dst = some d → d < n)
    (hyes : b = want → AOp P n o fr F (fun fr' F' => AOps P n ops rest fr' F' K))
    (hno : b ≠ want → AOps P n ops rest (fr.unset o.dst) F K) : AOps P n ops (i :: rest) fr F K := by
  intro w G a hr
  have hval : a.tmps[s]? = some (.bool b) := by
    have hev := hr.ev (o := .s s) (x := .v (.bool b)) (by simp [Fr.ev, hb, borrow, borrow1])
    have := (VR_val hev).1
    simp only [Opd.to, Act.eval] at this
    rw [← this, Array.getD_eq_getD_getElem?, Array.getElem?_eq_getElem (by rw [hr.size]; exact hs)]
    rfl
  have hy : yielded ops a.tmps j = some b := by simp [yielded, hoj, hdj, hval]
  by_cases hbw : b = want
  · have h1 := hyes hbw w G a hr
    simp only [wpOps, ho]
    rw [if_pos (by simp [Region.wanted, hg, hy, hbw])]
    left
    have key : ∀ a' w', Good n fr F w G (fun fr' F' => AOps P n ops rest fr' F' K) a' w' → wpOps P ops (fun e a' w' => e = .normal ∧ Good n fr F w G K a' w') rest a' w' := by
      rintro a' w' ⟨G', fr', F', hk, hl, hrel, htr⟩
      refine wpOps_mono ?_ rest a' w' (hk w' G' a' hrel)
      rintro e a2 w2 ⟨he, hg⟩
      exact ⟨he, hg.trans hl htr⟩
    simp only [Oper.wp, Oper.upon] at h1 ⊢
    split at h1 <;> rename_i hrun
    · exact key _ _ h1
    · exact key _ _ h1
    · exact key _ _ h1
    · refine h1.mono ?_
      rintro e w'' he
      cases e with
      | returned v => exact key _ _ he
      | panicked c => exact he.elim
      | outgrown => obtain ⟨_, _, hq⟩ := he; exact hq.elim
    · exact h1.mono fun v w'' hv => key _ _ hv
    · exact h1.elim
    · exact h1.elim
  · simp only [wpOps, ho]
    rw [if_neg (by simp [Region.wanted, hg, hy, hbw])]
    have hrel := hr.unset o.dst hdst undef
    refine wpOps_mono ?_ rest _ _ (hno hbw w _ _ hrel)
    rintro e a2 w2 ⟨he, hg⟩
    exact ⟨he, hg.trans rfl (Tr.unset fr F w G o.dst undef)⟩

/-! Code. -/
def AW (P : Program) (n : Nat) (c : Code) (fr : Fr) (F : List Fr) (Q : Exit → Post) : Prop :=
  ∀ w G a, Rel w G n a fr F → c.wp P (fun e a' w' => Good n fr F w G (Q e) a' w') a w

end
end Go.Proofs.Ythlehngbadianaa.Ai
/- The moves that are used: a list (or a part of it, or more than it) goes over to another cell; a new list; what a pointer or a box holds. -/
set_option linter.unusedVariables false
set_option linter.unusedSimpArgs false
namespace Go.Proofs.Ythlehngbadianaa.Ai
open Go Go.RowKit

/-- The cell itself. -/
def cellAV (R : Rt) (f : Nat) (p : Pl) : Option AV := (R f p.base).bind fun x => x.cellIn p.path p.j

theorem cellAV_cellOf {R : Rt} {f : Nat} {p : Pl} {c : AV} (h : cellAV R f p = some c) : ∃ r, rowOf R f p.base p.path = some r ∧ r[p.j]? = some c.sh ∧ p.j < r.length := by
  simp only [cellAV, AV.cellIn, Option.bind_eq_some_iff] at h
  obtain ⟨x, hx, y, hy, hc⟩ := h
  refine ⟨y.cells.map AV.sh, ?_, by simp [hc], by simpa using (List.getElem?_eq_some_iff.1 hc).1⟩
  simp [rowOf, hx, AV.row, hy]

theorem cellAV_under {R : Rt} {f : Nat} {p : Pl} {c : AV} (h : cellAV R f p = some c) (q : List Hop) (i : Nat) : rowOf R f p.base (q ++ (p.j, i) :: p.path) = (c.elem i).bind fun y => y.row q := by
  simp only [cellAV, AV.cellIn, Option.bind_eq_some_iff] at h
  obtain ⟨x, hx, y, hy, hc⟩ := h
  simp only [rowOf, hx, Option.bind_some, AV.row, AV.sub_append]
  have : x.sub ((p.j, i) :: p.path) = c.elem i := by simp [AV.sub, hy, hc]
  rw [this]
  cases c.elem i <;> simp [AV.row]

theorem row_under {c : AV} (hc : c.one = true) (q : List Hop) (i : Nat) : c.row (q ++ [(0, i)]) = (c.elem i).bind fun y => y.row q := by
  simp only [AV.row, AV.sub_append]
  have : c.sub [(0, i)] = c.elem i := by simp [AV.sub, AV.cells_one hc]
  rw [this]
  cases c.elem i <;> simp [AV.row]

theorem through_inj {p : List Hop} {j : Nat} {q q' : List Hop} {i i' : Nat} (h : q ++ (j, i) :: p = q' ++ (j, i') :: p) : q = q' ∧ i = i' := by
  have h1 := (strip_some p j _ q i).2 rfl
  rw [h] at h1
  have h2 := (strip_some p j _ q' i').2 rfl
  rw [h1] at h2
  simpa using h2

/-- Plain elements: each of es cells, none owns or refers. -/
def Plains (es : Nat) (ys : List AV) : Prop := ∀ y ∈ ys, y.cells.length = es ∧ ∀ c ∈ y.cells, c = .junk ∨ ∃ v, c = .v v

theorem Plains.row {es : Nat} {ys : List AV} (h : Plains es ys) {y : AV} (hy : y ∈ ys) {q : List Hop} {r : List Sh} (hr : y.row q = some r) : q = [] ∧ r.length = es ∧ ∀ s ∈ r, s = .junk ∨ ∃ x, s = .val x := by
  obtain ⟨h1, h2⟩ := h y hy
  have hf : y.flat := by
    intro c hc
    rcases h2 c hc with rfl | ⟨v, rfl⟩ <;> exact ⟨rfl, rfl⟩
  obtain ⟨rfl, rfl⟩ := AV.flat_row_cases hf hr
  refine ⟨rfl, by simpa using h1, ?_⟩
  intro s hs
  obtain ⟨c, hc, rfl⟩ := List.mem_map.1 hs
  rcases h2 c hc with rfl | ⟨v, rfl⟩
  · exact Or.inl rfl
  · exact Or.inr ⟨v, rfl⟩

/-- What new elements lie like in a block. -/
def NewAt (w : World) (B o es : Nat) (ys : List AV) : Prop := ∀ i y, ys[i]? = some y → ∀ jj c, y.cells[jj]? = some c → ∃ u, w.cell? ⟨B, o + i * es + jj, none⟩ = some u ∧ u.oneCell' = true ∧ ∀ v, c = .v v → u = v

theorem Clean.leafc {R : Rt} (cl : Clean R) {f : Nat} {p : Pl} {r0 : List Sh} (h : rowOf R f p.base p.path = some r0) (hj : p.j < r0.length) {c : AV} (hc : c.one = true) (hl : c.sh.leaf = true) (hr : (∀ x, c.sh ≠ .ref x) ∨ p.path = []) : Clean (setR R f p c) := by
  intro f' b a path r x hr' hx
  rcases rowOf_setR_leaf h hj hc hl hr' with ⟨rfl, rfl, e5, rfl⟩ | ⟨_, e5⟩
  · rcases List.mem_or_eq_of_mem_set hx with hx | hx
    · exact cl _ _ _ _ _ _ (by rw [e5]; exact h) hx
    · rcases hr with hr | hr
      · exact hr x hx.symm
      · rw [hr] at e5; simp at e5
  · exact cl _ _ _ _ _ _ e5 hx
theorem Clean.junk {R : Rt} (cl : Clean R) {f : Nat} {p : Pl} {r0 : List Sh} (h : rowOf R f p.base p.path = some r0) (hj : p.j < r0.length) : Clean (setR R f p .junk) :=
  cl.leafc h hj rfl rfl (Or.inl (by simp [AV.sh]))

/-- The addresses are as they were, but below a cell. -/
def AddrKeep (G G' : Gh) (f2 : Nat) (p2 : Pl) : Prop := ∀ f b path, ¬ (f = f2 ∧ b = p2.base ∧ ∃ q i, path = q ++ (p2.j, i) :: p2.path) → G'.addr f b path = G.addr f b path

/-- A list goes over: its elements from off on, len of them, and new ones behind. -/
theorem OkList {w : World} {G : Gh} {R : Rt} (ok : Ok w G R) (cl : Clean R) {f1 : Nat} {p1 : Pl} {es : Nat} {xs : List AV} (h1 : cellAV R f1 p1 = some (.own es xs)) (hw1 : G.wr f1 = true)
    {f2 : Nat} {p2 : Pl} {r2 : List Sh} (h2 : rowOf (setR R f1 p1 .junk) f2 p2.base p2.path = some r2) (hj2 : p2.j < r2.length) (hl2 : ∀ s, r2[p2.j]? = some s → s.leaf = true) (hw2 : G.wr f2 = true)
    (off len : Nat) (hlen : off + len ≤ xs.length) (new : List AV) (hnew : Plains es new) (B o cap : Nat)
    (hB : B = (G.h f1 p1.base p1.path p1.j).1 ∨ ∀ ow : Owner, ow.valid R → ow.blk G ≠ B)
    (hcells : ∀ i jj, i < len → jj < es → w.cell? ⟨B, o + i * es + jj, none⟩ = w.cell? ⟨(G.h f1 p1.base p1.path p1.j).1, (G.h f1 p1.base p1.path p1.j).2.1 + (off + i) * es + jj, none⟩)
    (hnewc : NewAt w B (o + len * es) es new)
    (hhead : conc w G f2 p2.base p2.path p2.j = some (.slice (some ⟨B, o, none⟩) (len + new.length) cap)) (hcap : len + new.length ≤ cap) (hblk : blockOk w true B (o + cap * es))
    (hoff : ∀ f b path r x, rowOf (setR R f1 p1 .junk) f b path = some r → .ref x ∈ r → x.off (TT f2 p2) (NN f2 p2) f) :
    ∃ G', Ok w G' (setR (setR R f1 p1 .junk) f2 p2 (.own es ((xs.drop off).take len ++ new))) ∧ Clean (setR (setR R f1 p1 .junk) f2 p2 (.own es ((xs.drop off).take len ++ new))) ∧ G'.wr = G.wr ∧ G'.tm = G.tm ∧ AddrKeep G G' f2 p2 ∧
      ∀ b, (∀ ow : Owner, ow.valid R → G.wr ow.frame = true → ow.blk G ≠ b) → b ≠ B → Un G' (setR (setR R f1 p1 .junk) f2 p2 (.own es ((xs.drop off).take len ++ new))) b := by
  obtain ⟨r1, hr1, hs1, hj1⟩ := cellAV_cellOf h1
  have hcell1 : cellOf R f1 p1 = some (.own es xs.length) := by obtain ⟨b, path, j⟩ := p1; simp [cellOf, hr1] at hs1 ⊢; simpa [AV.sh] using hs1
  obtain ⟨u1, hu1, hcs1⟩ := ok.cell _ _ _ _ _ _ hr1 hs1
  simp only [AV.sh, CS] at hcs1
  obtain ⟨hes, hpos, cap1, hu1e, hcap1, hblk1⟩ := hcs1
  have ok1 : Ok w G (setR R f1 p1 .junk) := ok.know hr1 hj1 rfl rfl (fun u _ => by simp [CS, AV.sh])
  have hle : Le (setR R f1 p1 .junk) R := Le.leaf hr1 hj1 rfl rfl
  have hv1 : (Owner.cell f1 p1.base p1.path p1.j).valid R := Or.inl ⟨es, xs.length, hcell1⟩
  have hj1row : (setR R f1 p1 .junk) = setR R f1 p1 .junk := rfl
  let m : Nat → Option (List Hop) := fun i => if i < len then some ((p1.j, off + i) :: p1.path) else none
  let c2 : AV := .own es ((xs.drop off).take len ++ new)
  have hm : ∀ i k, m i = some k → i < len ∧ k = (p1.j, off + i) :: p1.path := by
    intro i k h; simp only [m] at h; split at h
    · rename_i hi; exact ⟨hi, (Option.some.inj h).symm⟩
    · simp at h
  have hl0 : ((xs.drop off).take len).length = len := by simp; omega
  have helem : ∀ i, c2.elem i = if i < len then xs[off + i]? else new[i - len]? := by
    intro i
    simp only [c2, AV.elem]
    by_cases hi : i < len
    · rw [if_pos hi, List.getElem?_append_left (by rw [hl0]; exact hi), List.getElem?_take, if_pos hi, List.getElem?_drop]
    · rw [if_neg hi, List.getElem?_append_right (by rw [hl0]; omega), hl0]
  have hsrc : ∀ q i, i < len → rowOf R f1 p1.base (q ++ (p1.j, off + i) :: p1.path) = c2.row (q ++ [(0, i)]) := by
    intro q i hi
    rw [cellAV_under h1, row_under rfl, helem i, if_pos hi]
    rfl
  have M : Moves w G R (setR R f1 p1 .junk) f2 p2 c2 (B, o, es) f1 p1.base m := by
    constructor
    · intro ow how; exact Owner.valid_leaf hr1 hj1 rfl rfl how
    · intro i i' k k' q q' h3 h4 h5
      obtain ⟨a1, rfl⟩ := hm i k h3
      obtain ⟨a2, rfl⟩ := hm i' k' h4
      obtain ⟨e1, e2⟩ := through_inj h5
      exact ⟨e1, by omega⟩
    · intro i k h3; obtain ⟨_, rfl⟩ := hm i k h3; exact inMem_cons _ _ _
    · intro q i r hr
      by_cases hi : i < len
      · left
        refine ⟨(p1.j, off + i) :: p1.path, by simp only [m, hi, if_true], by rw [hsrc q i hi]; exact hr, ?_⟩
        intro s hs x e
        subst e
        rw [← hsrc q i hi] at hr
        cases q with
        | nil => exact cl _ _ _ _ _ _ hr hs
        | cons a q => exact cl _ _ _ _ _ _ hr hs
      · right
        rw [row_under rfl, helem i, if_neg hi] at hr
        cases hy : new[i - len]? with
        | none => simp [hy] at hr
        | some y =>
          simp only [hy, Option.bind_some] at hr
          obtain ⟨e1, _, e3⟩ := hnew.row (List.mem_of_getElem? hy) hr
          exact ⟨by simp only [m, hi, if_false], e1, e3⟩
    · intro i k _; exact hw1
    · intro ow how q i k j h3 e
      obtain ⟨_, rfl⟩ := hm i k h3
      subst e
      simp only [Owner.valid] at how
      have : ∀ s, cellOf (setR R f1 p1 .junk) f1 ⟨p1.base, q ++ (p1.j, off + i) :: p1.path, j⟩ ≠ some s := by
        intro s hs
        obtain ⟨r, hr, _⟩ := cellOf_row hs
        rw [rowOf_setR_through hr1 hj1 _ rfl, AV.leaf_row rfl rfl] at hr
        simp at hr
      rcases how with ⟨_, _, h⟩ | h
      · exact this _ h
      · exact this _ h
    · intro ow how e
      have hvR := Owner.valid_leaf hr1 hj1 rfl rfl how
      rcases hB with hB | hB
      · have e2 : (Owner.cell f1 p1.base p1.path p1.j).blk G = ow.blk G := by simp only [Owner.blk]; rw [← hB]; exact e.symm
        have := ok.inj _ _ hv1 hvR hw1 e2
        subst this
        have hh := rowOf_setR_here hr1 .junk rfl
        simp only [Owner.valid, cellOf, hh] at how
        simp [hj1, AV.sh] at how
      · exact hB ow hvR e
    · intro q i k j h3 hval e
      obtain ⟨_, rfl⟩ := hm i k h3
      rcases hB with hB | hB
      · have e2 : (Owner.cell f1 p1.base p1.path p1.j).blk G = (Owner.cell f1 p1.base (q ++ (p1.j, off + i) :: p1.path) j).blk G := by
          rw [e]; simp only [Owner.blk]; exact hB.symm
        have := ok.inj _ _ hv1 hval hw1 e2
        simp only [Owner.cell.injEq, true_and] at this
        exact path_ne_through _ _ _ _ this.1
      · exact hB _ hval e
    · intro i r hr jj s hs
      refine ⟨?_, ?_⟩
      · intro k h3
        obtain ⟨hi, rfl⟩ := hm i k h3
        have hrow : rowOf R f1 p1.base ((p1.j, off + i) :: p1.path) = some r := by
          have := hsrc [] i hi
          simp only [List.nil_append] at this
          rw [this]; exact hr
        have hl := ok.len _ _ _ _ _ _ _ _ hcell1 hrow
        have hjj : jj < es := by rw [← hl]; exact (List.getElem?_eq_some_iff.1 hs).1
        simp only [conc]
        rw [if_pos (inMem_cons _ _ _)]
        simp only [Gh.addr, hes]
        exact hcells i jj hi hjj
      · intro h3
        have hi : ¬ i < len := by intro hi; simp [m, hi] at h3
        have hr' : c2.row ([] ++ [(0, i)]) = some r := hr
        rw [row_under rfl, helem i, if_neg hi] at hr'
        cases hy : new[i - len]? with
        | none => simp [hy] at hr'
        | some y =>
          simp only [hy, Option.bind_some, AV.row, AV.sub, Option.map_some, Option.some.injEq] at hr'
          subst hr'
          simp only [List.getElem?_map, Option.map_eq_some_iff] at hs
          obtain ⟨c, hc, rfl⟩ := hs
          obtain ⟨u, hu, ho, hv⟩ := hnewc (i - len) y hy jj c hc
          refine ⟨u, ?_, ho, ?_⟩
          · rw [← hu]
            have : o + i * es + jj = o + len * es + (i - len) * es + jj := by
              have : i * es = len * es + (i - len) * es := by rw [← Nat.add_mul]; congr 1; omega
              omega
            rw [this]
          · intro x hx
            cases c <;> simp [AV.sh] at hx
            exact hv _ (by rw [hx])
    · intro es' n' he
      simp only [c2, AV.sh, Sh.own.injEq] at he
      refine ⟨he.1, ?_⟩
      intro i r hr
      by_cases hi : i < len
      · have hrow : rowOf R f1 p1.base ((p1.j, off + i) :: p1.path) = some r := by
          have := hsrc [] i hi
          simp only [List.nil_append] at this
          rw [this]; exact hr
        rw [ok.len _ _ _ _ _ _ _ _ hcell1 hrow, he.1]
      · have hr' : c2.row ([] ++ [(0, i)]) = some r := hr
        rw [row_under rfl, helem i, if_neg hi] at hr'
        cases hy : new[i - len]? with
        | none => simp [hy] at hr'
        | some y =>
          simp only [hy, Option.bind_some] at hr'
          rw [(hnew.row (List.mem_of_getElem? hy) hr').2.1, he.1]
    · intro u hu
      rw [hhead] at hu
      obtain rfl := Option.some.inj hu
      refine ⟨?_, by simp [c2, AV.sh]⟩
      intro es' n' he
      simp only [c2, AV.sh, Sh.own.injEq, List.length_append, hl0] at he
      obtain ⟨rfl, rfl⟩ := he
      exact ⟨hpos, cap, rfl, hcap, hblk⟩
    · exact hoff
  have hfin := ok.populate ok1 h2 hj2 hw2 (c := c2) rfl (Or.inl ⟨es, _, rfl⟩) M hl2
  refine ⟨_, hfin, ?_, rfl, rfl, fun f b path hn => Gh.moved_addr f b path hn, ?_⟩
  · intro f b a path r x hr hx
    have hcl := cl.junk hr1 hj1
    rcases rowOf_setR_cases h2 hj2 (c := c2) rfl hr with ⟨rfl, rfl, e3, rfl⟩ | ⟨q, i, rfl, rfl, e3, e4⟩ | ⟨_, _, e3⟩
    · rcases List.mem_or_eq_of_mem_set hx with hx | hx
      · exact hcl _ _ _ _ _ _ (by rw [e3]; exact h2) hx
      · simp [c2, AV.sh] at hx
    · rcases M.nodes _ _ _ e4 with ⟨k, _, _, hno⟩ | ⟨_, _, hpl⟩
      · exact hno _ hx _ rfl
      · rcases hpl _ hx with h | ⟨y, h⟩ <;> simp at h
    · exact hcl _ _ _ _ _ _ e3 hx
  · intro b hb hbB ow how hwr e
    -- who owns b now owned it before, or it is B
    have hkind := ownerKind_of M h2 hj2 rfl ow how
    rcases hkind with rfl | ⟨q, i, k, j, hk, rfl, hv, hbl⟩ | ⟨hv, hbl⟩
    · simp only [Owner.blk, Gh.moved_here] at e
      exact hbB e.symm
    · exact hb _ hv hw1 (by rw [← hbl]; exact e)
    · exact hb _ (M.sub _ hv) hwr (by rw [← hbl]; exact e)

end Go.Proofs.Ythlehngbadianaa.Ai
/- A new list; references that are forgotten. -/
set_option linter.unusedVariables false
set_option linter.unusedSimpArgs false
namespace Go.Proofs.Ythlehngbadianaa.Ai
open Go Go.RowKit

/-- A list in a block that nobody owned. -/
theorem OkNew {w : World} {G : Gh} {R : Rt} (ok : Ok w G R) (cl : Clean R) {f2 : Nat} {p2 : Pl} {r2 : List Sh} (h2 : rowOf R f2 p2.base p2.path = some r2) (hj2 : p2.j < r2.length) (hl2 : ∀ s, r2[p2.j]? = some s → s.leaf = true) (hw2 : G.wr f2 = true)
    {es : Nat} (hpos : 0 < es) (new : List AV) (hnew : Plains es new) (B o cap : Nat) (hB : ∀ ow : Owner, ow.valid R → ow.blk G ≠ B) (hnewc : NewAt w B o es new)
    (hhead : conc w G f2 p2.base p2.path p2.j = some (.slice (some ⟨B, o, none⟩) new.length cap)) (hcap : new.length ≤ cap) (hblk : blockOk w true B (o + cap * es))
    (hoff : ∀ f b path r x, rowOf R f b path = some r → .ref x ∈ r → x.off (TT f2 p2) (NN f2 p2) f) :
    ∃ G', Ok w G' (setR R f2 p2 (.own es new)) ∧ Clean (setR R f2 p2 (.own es new)) ∧ G'.wr = G.wr ∧ G'.tm = G.tm ∧
      ∀ b, Un G R b → b ≠ B → Un G' (setR R f2 p2 (.own es new)) b := by
  have helem : ∀ i, (AV.own es new).elem i = new[i]? := fun i => rfl
  have M : Moves w G R R f2 p2 (.own es new) (B, o, es) 0 p2.base (fun _ => none) := by
    constructor
    · intro ow how; exact how
    · intro i i' k k' q q' h; simp at h
    · intro i k h; simp at h
    · intro q i r hr
      right
      rw [row_under rfl, helem i] at hr
      cases hy : new[i]? with
      | none => simp [hy] at hr
      | some y =>
        simp only [hy, Option.bind_some] at hr
        obtain ⟨e1, _, e3⟩ := hnew.row (List.mem_of_getElem? hy) hr
        exact ⟨rfl, e1, e3⟩
    · intro i k h; simp at h
    · intro ow how q i k j h; simp at h
    · intro ow how; exact hB ow how
    · intro q i k j h; simp at h
    · intro i r hr jj s hs
      refine ⟨by intro k h; simp at h, fun _ => ?_⟩
      have hr' : (AV.own es new).row ([] ++ [(0, i)]) = some r := hr
      rw [row_under rfl, helem i] at hr'
      cases hy : new[i]? with
      | none => simp [hy] at hr'
      | some y =>
        simp only [hy, Option.bind_some, AV.row, AV.sub, Option.map_some, Option.some.injEq] at hr'
        subst hr'
        simp only [List.getElem?_map, Option.map_eq_some_iff] at hs
        obtain ⟨c, hc, rfl⟩ := hs
        obtain ⟨u, hu, ho, hv⟩ := hnewc i y hy jj c hc
        refine ⟨u, hu, ho, ?_⟩
        intro x hx
        cases c <;> simp [AV.sh] at hx
        exact hv _ (by rw [hx])
    · intro es' n' he
      simp only [AV.sh, Sh.own.injEq] at he
      refine ⟨he.1, ?_⟩
      intro i r hr
      have hr' : (AV.own es new).row ([] ++ [(0, i)]) = some r := hr
      rw [row_under rfl, helem i] at hr'
      cases hy : new[i]? with
      | none => simp [hy] at hr'
      | some y =>
        simp only [hy, Option.bind_some] at hr'
        rw [(hnew.row (List.mem_of_getElem? hy) hr').2.1, he.1]
    · intro u hu
      rw [hhead] at hu
      obtain rfl := Option.some.inj hu
      refine ⟨?_, by simp [AV.sh]⟩
      intro es' n' he
      simp only [AV.sh, Sh.own.injEq] at he
      obtain ⟨rfl, rfl⟩ := he
      exact ⟨hpos, cap, rfl, hcap, hblk⟩
    · exact hoff
  have hfin := ok.populate ok h2 hj2 hw2 (c := .own es new) rfl (Or.inl ⟨es, _, rfl⟩) M hl2
  refine ⟨_, hfin, ?_, rfl, rfl, ?_⟩
  · intro f b a path r x hr hx
    rcases rowOf_setR_cases h2 hj2 (c := .own es new) rfl hr with ⟨rfl, rfl, e3, rfl⟩ | ⟨q, i, rfl, rfl, e3, e4⟩ | ⟨_, _, e3⟩
    · rcases List.mem_or_eq_of_mem_set hx with hx | hx
      · exact cl _ _ _ _ _ _ (by rw [e3]; exact h2) hx
      · simp [AV.sh] at hx
    · rcases M.nodes _ _ _ e4 with ⟨k, _, _, hno⟩ | ⟨_, _, hpl⟩
      · exact hno _ hx _ rfl
      · rcases hpl _ hx with h | ⟨y, h⟩ <;> simp at h
    · exact cl _ _ _ _ _ _ e3 hx
  · intro b hb hbB ow how hwr e
    rcases ownerKind_of M h2 hj2 rfl ow how with rfl | ⟨q, i, k, j, hk, rfl, hv, hbl⟩ | ⟨hv, hbl⟩
    · simp only [Owner.blk, Gh.moved_here] at e
      exact hbB e.symm
    · simp at hk
    · exact hb _ hv hwr (by rw [← hbl]; exact e)

/-! References to a base are forgotten. -/
mutual
def hits (b : Base) : AV → Bool
  | .sl p _ _ _ => p.base = b
  | .sa p _ _ _ => p.base = b
  | .ptr p => p.base = b
  | .fn _ caps => hitsL b caps
  | _ => false
def hitsL (b : Base) : List AV → Bool
  | [] => false
  | c :: cs => hits b c || hitsL b cs
end
theorem hitsL_mem {b : Base} : ∀ (cs : List AV), hitsL b cs = false → ∀ c ∈ cs, hits b c = false
  | [], _, c, hc => by simp at hc
  | a :: cs, h, c, hc => by
    simp only [hitsL, Bool.or_eq_false_iff] at h
    rcases List.mem_cons.1 hc with rfl | hc
    · exact h.1
    · exact hitsL_mem cs h.2 c hc
def killC (b : Base) (x : AV) : AV := if hits b x then .junk else x
def killV (b : Base) : AV → AV
  | .agg cs => .agg (cs.map (killC b))
  | .tup sh cs => .tup sh (cs.map (killC b))
  | x => killC b x
def Al.mapv (l : Al) (g : AV → AV) : Al := l.map fun x => (x.1, g x.2)
def Fr.kill (fr : Fr) (b : Base) : Fr := ⟨fr.sl.mapv (killV b), fr.bx.mapv (killV b), fr.rw⟩

theorem Al.get_mapv (l : Al) (g : AV → AV) (k : Nat) : (l.mapv g).get k = (l.get k).map g := by
  induction l with
  | nil => rfl
  | cons a l ih =>
    obtain ⟨a, x⟩ := a
    simp only [Al.mapv, List.map_cons, Al.get] at ih ⊢
    by_cases h : a = k <;> simp [h, ih]

theorem killC_cases (b : Base) (x : AV) : killC b x = x ∨ (killC b x = .junk ∧ x.one = true ∧ x.sh.leaf = true) := by
  simp only [killC]
  split
  · rename_i h
    right
    refine ⟨rfl, ?_⟩
    cases x <;> simp_all [hits, AV.one, AV.sh, Sh.leaf]
  · left; rfl

theorem killC_one (b : Base) (x : AV) : (killC b x).one = x.one := by
  rcases killC_cases b x with h | ⟨h, h2, _⟩
  · rw [h]
  · rw [h, h2]; rfl
theorem killC_elem (b : Base) (x : AV) (i : Nat) : (killC b x).elem i = x.elem i := by
  rcases killC_cases b x with h | ⟨h, h2, h3⟩
  · rw [h]
  · rw [h]; cases x <;> simp_all [AV.elem, AV.sh, Sh.leaf]

theorem killV_cells (b : Base) (x : AV) : (killV b x).cells = x.cells.map (killC b) := by
  cases hx : x.one with
  | true =>
    have h : killV b x = killC b x := by cases x <;> first | rfl | simp [AV.one] at hx
    rw [h, AV.cells_one (by rw [killC_one]; exact hx), AV.cells_one hx]; rfl
  | false => cases x <;> simp [AV.one] at hx <;> rfl

theorem killV_sub (b : Base) (x : AV) (a : Hop) : (killV b x).sub [a] = x.sub [a] := by
  obtain ⟨j, i⟩ := a
  simp only [AV.sub, Option.bind_some, killV_cells, List.getElem?_map]
  cases x.cells[j]? with
  | none => rfl
  | some c => simp [killC_elem]

theorem killV_weak (b : Base) (x : AV) {path : List Hop} {r : List Sh} (hr : (killV b x).row path = some r) : ∃ r0, x.row path = some r0 ∧ r0.length = r.length ∧ ∀ (j : Nat) (s : Sh), r[j]? = some s → s = .junk ∨ r0[j]? = some s := by
  rcases List.eq_nil_or_concat path with rfl | ⟨t, a, rfl⟩
  · simp only [AV.row, AV.sub, Option.map_some, Option.some.injEq] at hr ⊢
    subst hr
    refine ⟨_, rfl, by simp [killV_cells], ?_⟩
    intro j s hs
    simp only [killV_cells, List.getElem?_map, Option.map_eq_some_iff] at hs
    obtain ⟨_, ⟨c, hc, rfl⟩, rfl⟩ := hs
    rcases killC_cases b c with h | ⟨h, _⟩
    · right; simp [hc, h]
    · left; rw [h]; rfl
  · rw [List.concat_eq_append] at hr ⊢
    simp only [AV.row, AV.sub_append, killV_sub] at hr ⊢
    exact ⟨r, hr, rfl, fun _ _ h => Or.inr h⟩

theorem Weak.kill (fr : Fr) (F : List Fr) (b : Base) : Weak (rootsOf (fr.kill b :: F)) (rootsOf (fr :: F)) := by
  intro f b' path r' hr
  simp only [rowOf, rootsOf] at hr ⊢
  split at hr
  · rename_i hf
    rw [if_pos hf]
    have hroot : (fr.kill b).root b' = (fr.root b').map (killV b) := by
      cases b' <;> simp [Fr.root, Fr.kill, Al.get_mapv]
    rw [hroot] at hr
    cases hx : fr.root b' with
    | none => simp [hx] at hr
    | some x =>
      simp only [hx, Option.map_some, Option.bind_some] at hr
      simpa using killV_weak b x hr
  · rename_i hf
    rw [if_neg hf]
    exact ⟨r', hr, rfl, fun _ _ h => Or.inr h⟩

theorem off_lt (f2 : Nat) (p2 : Pl) : ∀ (f : Nat) (x : AV), f < f2 → x.off (TT f2 p2) (NN f2 p2) f
  | f, .v _, _ => by simp [AV.off]
  | f, .junk, _ => by simp [AV.off]
  | 0, .up x, _ => by simp [AV.off]
  | f + 1, .up x, h => by simp only [AV.off]; exact off_lt f2 p2 f x (by omega)
  | f, .fn g caps, h => by simp only [AV.off]; exact fun c hc => off_lt f2 p2 f c h
  | f, .sl .., h => by simp only [AV.off, TT]; exact fun e => by omega
  | f, .sa .., h => by simp only [AV.off, NN]; exact fun e => by omega
  | f, .ptr .., h => by simp only [AV.off, NN]; exact fun e => by omega
  | f, .agg .., _ => by simp [AV.off]
  | f, .tup .., _ => by simp [AV.off]
  | f, .own .., _ => by simp [AV.off]
  | f, .obj .., _ => by simp [AV.off]
  | f, .lapp .., _ => by simp [AV.off]
termination_by f x => SizeOf.sizeOf x

theorem off_hits (f2 : Nat) (p2 : Pl) : ∀ (f : Nat) (x : AV), f ≤ f2 → hits p2.base x = false → x.off (TT f2 p2) (NN f2 p2) f
  | f, .v _, _, _ => by simp [AV.off]
  | f, .junk, _, _ => by simp [AV.off]
  | 0, .up x, _, _ => by simp [AV.off]
  | f + 1, .up x, h, _ => by simp only [AV.off]; exact off_lt f2 p2 f x (by omega)
  | f, .fn g caps, h, hh => by
    simp only [AV.off]
    intro c hc
    refine off_hits f2 p2 f c h ?_
    simp only [hits] at hh
    exact hitsL_mem caps hh c hc
  | f, .sl p .., h, hh => by simp only [AV.off, TT]; intro e; simp [hits] at hh; exact hh e.2.1
  | f, .sa p .., h, hh => by simp only [AV.off, NN]; intro e; simp [hits] at hh; exact hh e.2.1
  | f, .ptr p .., h, hh => by simp only [AV.off, NN]; intro e; simp [hits] at hh; exact hh e.2.1
  | f, .agg .., _, _ => by simp [AV.off]
  | f, .tup .., _, _ => by simp [AV.off]
  | f, .own .., _, _ => by simp [AV.off]
  | f, .obj .., _, _ => by simp [AV.off]
  | f, .lapp .., _, _ => by simp [AV.off]
termination_by f x => SizeOf.sizeOf x

theorem kill_off (fr : Fr) (F : List Fr) (cl : Clean (rootsOf (fr :: F))) (p2 : Pl) : ∀ f b path r x, rowOf (rootsOf (fr.kill p2.base :: F)) f b path = some r → .ref x ∈ r → x.off (TT F.length p2) (NN F.length p2) f := by
  intro f b path r x hr hx
  by_cases hf : f = F.length
  · subst hf
    cases path with
    | cons a path => exact absurd hx ((Weak.kill fr F p2.base).clean cl _ _ _ _ _ _ hr)
    | nil =>
      simp only [rowOf, rootsOf, if_true] at hr
      have hroot : (fr.kill p2.base).root b = (fr.root b).map (killV p2.base) := by
        cases b <;> simp [Fr.root, Fr.kill, Al.get_mapv]
      rw [hroot] at hr
      cases hy : fr.root b with
      | none => simp [hy] at hr
      | some y =>
        simp only [hy, Option.map_some, Option.bind_some, AV.row, AV.sub, Option.some.injEq, killV_cells] at hr
        subst hr
        simp only [List.map_map, List.mem_map, Function.comp] at hx
        obtain ⟨c, hc, he⟩ := hx
        have hcx : killC p2.base c = x := by
          cases h : killC p2.base c <;> rw [h] at he <;> simp [AV.sh] at he <;> exact he
        refine off_hits _ _ _ _ (Nat.le_refl _) ?_
        rw [← hcx]
        simp only [killC]
        split
        · rfl
        · rename_i hh; simpa using hh
  · by_cases hf2 : f < F.length
    · exact off_lt _ _ _ _ hf2
    · have : rootsOf (fr.kill p2.base :: F) f b = none := rootsOf_ge _ _ _ (by simp; omega)
      simp [rowOf, this] at hr

theorem killV_shape {b : Base} {x : AV} {u : Value} (h : Shape x u) : Shape (killV b x) u := by
  cases hx : x.one with
  | true =>
    have h1 : killV b x = killC b x := by cases x <;> first | rfl | simp [AV.one] at hx
    have h2 : u.oneCell' = true := by cases x <;> simp_all [Shape, AV.one]
    rw [h1]
    have h3 := killC_one b x
    rw [hx] at h3
    cases hk : killC b x <;> simp_all [Shape, AV.one]
  | false =>
    cases x <;> simp [AV.one] at hx <;> simp_all [Shape, killV]

theorem Rel.kill {w : World} {G : Gh} {n : Nat} {a : Act} {fr : Fr} {F : List Fr} (h : Rel w G n a fr F) (b : Base) : Rel w G n a (fr.kill b) F := by
  refine ⟨h.ok.weaken (Weak.kill fr F b), h.tm, ?_, h.size, h.wr, h.defers, (Weak.kill fr F b).clean h.clean⟩
  intro k x hx
  simp only [Fr.kill, Al.get_mapv, Option.map_eq_some_iff] at hx
  obtain ⟨y, hy, rfl⟩ := hx
  exact ⟨killV_shape (h.shape k y hy).1, (h.shape k y hy).2⟩

theorem Tr.weak {d : Nat} {w : World} {G : Gh} {R R' : Rt} (h : Weak R' R) (hs : Shp d R R') : Tr d w G R w G R' :=
  ⟨rfl, rfl, rfl, Nat.le_refl _, rfl, fun _ _ _ => rfl, fun b _ hu => ⟨rfl, Un.weak rfl (fun o ho => ⟨h.valid ho, rfl⟩) hu⟩, hs⟩

end Go.Proofs.Ythlehngbadianaa.Ai
/- Operations that make lists: make, a literal, append. -/
set_option linter.unusedVariables false
set_option linter.unusedSimpArgs false
namespace Go.Proofs.Ythlehngbadianaa.Ai
open Go Go.RowKit

theorem Ok.blk_lt {w : World} {G : Gh} {R : Rt} (ok : Ok w G R) {o : Owner} (ho : o.valid R) : o.blk G < w.heap.size := by
  cases o with
  | bx f t => exact blockOk_lt (ok.box f t ho)
  | cell f b path j =>
    simp only [Owner.valid] at ho
    rcases ho with ⟨es, n, ho⟩ | ho
    · obtain ⟨r, hr, hj⟩ := cellOf_row ho
      obtain ⟨u, _, hcs⟩ := ok.cell _ _ _ _ _ _ hr hj
      simp only [CS] at hcs
      obtain ⟨_, _, cap, _, _, hb⟩ := hcs
      exact blockOk_lt hb
    · obtain ⟨r, hr, hj⟩ := cellOf_row ho
      obtain ⟨u, _, hcs⟩ := ok.cell _ _ _ _ _ _ hr hj
      simp only [CS] at hcs
      exact blockOk_lt hcs.2.2

theorem setR_slot (fr : Fr) (F : List Fr) (d : Nat) (c : AV) (hc : c.one = true) : setR (rootsOf (fr.set d .junk :: F)) F.length ⟨.sl d, [], 0⟩ c = rootsOf (fr.set d c :: F) := by
  funext f b
  rw [rootsOf_set, rootsOf_set]
  simp only [setR, setRoot]
  by_cases h : f = F.length ∧ b = .sl d
  · simp only [h, and_self, if_true, Option.map_some]
    congr 1
  · simp only [h, if_false]

section
variable {P : Program} {w : World} {G : Gh} {n : Nat} {a : Act} {fr : Fr} {F : List Fr}

theorem Rel.world {w' : World} (h : Rel w G n a fr F) (hb : Below w.heap.size w w') : Rel w' G n a fr F :=
  ⟨h.ok.below hb, h.tm, h.shape, h.size, h.wr, h.defers, h.clean⟩

theorem Tr.below {d : Nat} {w w' : World} {G : Gh} {R : Rt} (hb : Below w.heap.size w w') : Tr d w G R w' G R :=
  ⟨hb.os, hb.tape, hb.output, hb.size, rfl, fun _ _ _ => rfl, fun b hlt hu => ⟨hb.block b hlt, hu⟩, Shp.refl _ _⟩

theorem VR_junk {R : Rt} {f : Nat} {v : Value} (h : v.oneCell' = true) : VR w G R f .junk v :=
  (VR_one rfl).2 ⟨h, by simp [RV]⟩

/-- A slot gets a new list. -/
theorem Rel.newList {w' : World} (h : Rel w G n a fr F) (hb : Below w.heap.size w w') {d : Nat} (hd : d < n) {B o cap es : Nat} (hB : w.heap.size ≤ B) (hpos : 0 < es) {new : List AV} (hnew : Plains es new) (hnewc : NewAt w' B o es new)
    (hcap : new.length ≤ cap) (hblk : blockOk w' true B (o + cap * es)) {K : Post} (hk : K ((fr.kill (.sl d)).set d (.own es new)) F) :
    Good n fr F w G K (a.put (some d) (.slice (some ⟨B, o, none⟩) new.length cap)) w' := by
  have h1 := (h.kill (.sl d)).world hb
  have h2 := h1.set hd (x := .junk) (v := .slice (some ⟨B, o, none⟩) new.length cap) (VR_junk rfl)
  have hoffall := kill_off fr F h.clean ⟨.sl d, [], 0⟩
  have hroot : rootsOf ((fr.kill (.sl d)).set d .junk :: F) F.length (.sl d) = some .junk := by
    rw [rootsOf_set]; simp [setRoot]
  have hrow : rowOf (rootsOf ((fr.kill (.sl d)).set d .junk :: F)) F.length (.sl d) [] = some [Sh.junk] := by
    simp [rowOf, hroot, AV.row, AV.sub, AV.cells, AV.sh]
  have hfresh : ∀ ow : Owner, ow.valid (rootsOf ((fr.kill (.sl d)).set d .junk :: F)) → ow.blk (G.setTm F.length d (.slice (some ⟨B, o, none⟩) new.length cap)) ≠ B := by
    intro ow how
    rw [rootsOf_set] at how
    have h3 := valid_setRoot_flat (x := .junk) (by intro c hc; simp [AV.cells] at hc; subst hc; exact ⟨rfl, rfl⟩) how (by simp)
    have h4 := (h.kill (.sl d)).ok.blk_lt h3
    have h5 : ow.blk (G.setTm F.length d (.slice (some ⟨B, o, none⟩) new.length cap)) = ow.blk G := by cases ow <;> rfl
    omega
  have hwr : (G.setTm F.length d (.slice (some ⟨B, o, none⟩) new.length cap)).wr F.length = true := h.wr0
  obtain ⟨G', hok, hcl, hw, htm, hun⟩ := OkNew h2.ok h2.clean (p2 := ⟨.sl d, [], 0⟩) hrow (by simp) (by intro s hs; simp at hs; subst hs; rfl) hwr hpos new hnew B o cap hfresh hnewc
    (by simp [conc, inMem, Gh.setTm, flatV]) hcap hblk (by
      intro f b path r x hr hx
      rw [rootsOf_set] at hr
      rcases rowOf_setRoot_flat (x := .junk) (by intro c hc; simp [AV.cells] at hc; subst hc; exact ⟨rfl, rfl⟩) hr with ⟨_, _, _, rfl⟩ | ⟨_, h6⟩
      · simp [AV.cells, AV.sh] at hx
      · exact hoffall f b path r x h6 hx)
  rw [setR_slot _ _ _ _ rfl] at hok hcl hun
  refine ⟨G', _, F, hk, rfl, ⟨hok, ?_, ?_, by simp [Act.put, h.size], h.wr.cong hw, h.defers, hcl⟩, ?_⟩
  · intro k
    rw [htm]
    exact h2.tm k
  · intro k y hy
    simp only [Fr.set, Al.get_set] at hy
    by_cases hkd : k = d
    · subst hkd
      simp only [if_true, Option.some.injEq] at hy
      subst hy
      have := h2.shape k .junk (by simp [Fr.set, Al.get_set])
      exact ⟨this.1, this.2⟩
    · simp only [hkd, if_false] at hy
      exact h2.shape k y (by simp [Fr.set, Al.get_set, hkd, hy])
  · refine ⟨hb.os, hb.tape, hb.output, hb.size, hw, ?_, ?_, Shp.cons _ _ _⟩
    · intro f k hf
      rw [htm]
      simp only [Gh.setTm]
      rw [if_neg (fun e => by omega)]
    · intro b hlt hu
      refine ⟨hb.block b hlt, hun b ?_ (by omega)⟩
      intro ow how hwro
      rw [rootsOf_set] at how
      have h3 := valid_setRoot_flat (x := .junk) (by intro c hc; simp [AV.cells] at hc; subst hc; exact ⟨rfl, rfl⟩) how (by simp)
      have h5 : ow.blk (G.setTm F.length d (.slice (some ⟨B, o, none⟩) new.length cap)) = ow.blk G := by cases ow <;> rfl
      rw [h5]
      exact hu ow ((Weak.kill fr F (.sl d)).valid h3) hwro

/-! make -/
def zeroAV (z : Value) : AV :=
  match z with
  | .agg cs => .agg (cs.toList.map .v)
  | z => .v z

theorem zeroAV_cells (z : Value) (h : ∀ vs, z ≠ .tuple vs) : (zeroAV z).cells = z.cells.toList.map .v := by
  cases z <;> simp_all [zeroAV, AV.cells, Value.cells]

/-- make([]E, l, c) -/
structure MkInfo (P : Program) (t : TypeId) (e : TypeId) (z : Value) (es bytes : Nat) : Prop where
  under : P.underlying t = some (.slice e)
  info : (P.info? e).map (fun i => (i.zero, i.size, i.bytes)) = some (some z, es, bytes)
  cells : z.cells.size = es
  pos : 0 < es
  notup : ∀ vs, z ≠ .tuple vs
  ones : ∀ c ∈ z.cells.toList, c.oneCell' = true

def plainZero (z : Value) : Bool :=
  (match z with | .tuple _ => false | _ => true) && z.cells.toList.all Value.oneCell'

def mkInfo (P : Program) (t : TypeId) : Option (TypeId × Value × Nat × Nat) :=
  match P.underlying t with
  | some (.slice e) =>
    match P.info? e with
    | some i => match i.zero with
      | some z => if z.cells.size = i.size ∧ 0 < i.size ∧ plainZero z = true then some (e, z, i.size, i.bytes) else none
      | none => none
    | none => none
  | _ => none

theorem mkInfo_spec {t e : TypeId} {z : Value} {es bytes : Nat} (h : mkInfo P t = some (e, z, es, bytes)) : MkInfo P t e z es bytes := by
  simp only [mkInfo] at h
  split at h
  · rename_i e' hu
    split at h
    · rename_i i hi
      split at h
      · rename_i z' hz
        split at h
        · rename_i hc
          simp only [Option.some.injEq, Prod.mk.injEq] at h
          obtain ⟨rfl, rfl, rfl, rfl⟩ := h
          obtain ⟨h1, h2, h3⟩ := hc
          simp only [plainZero, Bool.and_eq_true] at h3
          refine ⟨hu, by simp [hi, hz], h1, h2, ?_, ?_⟩
          · intro vs e; subst e; simp at h3
          · intro c hc; simpa using List.all_eq_true.1 h3.2 c hc
        · simp at h
      · simp at h
    · simp at h
  · simp at h

theorem MkInfo.parts {t e : TypeId} {z : Value} {es bytes : Nat} (h : MkInfo P t e z es bytes) : ∃ i, P.info? e = some i ∧ i.zero = some z ∧ i.size = es ∧ i.bytes = bytes := by
  have := h.info
  simp only [Option.map_eq_some_iff, Prod.mk.injEq] at this
  obtain ⟨i, h1, h2, h3, h4⟩ := this
  exact ⟨i, h1, h2, h3, h4⟩

theorem madeCells_get (zc : Array Value) (m i jj es : Nat) (he : zc.size = es) (hi : i < m) (hj : jj < es) : (madeCells zc (m * es))[i * es + jj]? = zc[jj]? := by
  have hlt : i * es + jj < m * es := by
    have : (i + 1) * es ≤ m * es := Nat.mul_le_mul_right _ hi
    rw [Nat.add_mul] at this; omega
  simp only [madeCells, Array.getElem?_map, Array.getElem?_range, hlt, if_true, Option.map_some]
  have : (i * es + jj) % zc.size = jj := by
    rw [he, Nat.mul_comm, Nat.mul_add_mod]
    exact Nat.mod_eq_of_lt hj
  rw [this]
  rw [getElem!_def, Array.getElem?_eq_getElem (by omega)]

theorem blockOk_alloc {W : World} {arr : Array Value} {e : TypeId} {m : Nat} (h : m ≤ arr.size) : blockOk (W.alloc (.cells arr e)) true W.heap.size m :=
  ⟨arr, e, (0, 0), heap_alloc_new W _, h, fun _ i _ => by simp⟩

theorem cell_alloc_new (W : World) (arr : Array Value) (e : TypeId) (j : Nat) : (W.alloc (.cells arr e)).cell? ⟨W.heap.size, j, none⟩ = arr[j]? := by
  have h := heap_alloc_new W (.cells arr e)
  unfold World.cell?
  rw [h]
  rfl

theorem AOp_mk {o : Oper} {t : TypeId} {l c : Operand} {ol oc : Opd} {e : TypeId} {z : Value} {es bytes d : Nat} {b : Bool} {K : Post} (hop : o.op = .makeSlice t l c) (hol : opd l = some ol) (hoc : opd c = some oc) (hi : mkInfo P t = some (e, z, es, bytes))
    (hd : o.dst = some d) (hdn : d < n) {lv cv : Int} (hl : fr.int ol = some lv) (hc : fr.int oc = some cv) (h0 : 0 ≤ lv) (hlc : lv ≤ cv) (hb : (bytes : Int) * cv ≤ 281474976710656) (h63 : cv ≤ 9223372036854775807)
    (hk : K ((fr.kill (.sl d)).set d (.own es (List.replicate lv.toNat (zeroAV z)))) F) : AOpC b P n o fr F K := by
  intro w G a h
  obtain ⟨hI⟩ : Nonempty (MkInfo P t e z es bytes) := ⟨mkInfo_spec hi⟩
  obtain ⟨i, hi1, hi2, hi3, hi4⟩ := hI.parts
  obtain ⟨kl, hkl⟩ := h.int hl
  obtain ⟨kc, hkc⟩ := h.int hc
  have hrun := run_make (P := P) w t e i z hI.under hi1 hi2 kl kc lv cv h0 hlc (by rw [hi4]; exact hb) h63
  have hexec : (execOp a.eval o).run P w = .ok (.value (.slice (some ⟨w.heap.size, 0, none⟩) lv.toNat cv.toNat)) (w.alloc (.cells (madeCells z.cells (cv.toNat * i.size)) e)) := by
    simp only [execOp, hop, Sem.run_bind, ← opd_to hol, ← opd_to hoc, hkl, hkc, hrun, Result.andThen_ok, Sem.run_pure]
  simp only [Oper.wp, hexec, Oper.upon, hd]
  rw [hi3]
  have hlen : (List.replicate lv.toNat (zeroAV z)).length = lv.toNat := List.length_replicate
  have key := h.newList (w' := w.alloc (.cells (madeCells z.cells (cv.toNat * es)) e)) ((Below.refl _ _).alloc (Nat.le_refl _) _) hdn (B := w.heap.size) (o := 0) (cap := cv.toNat) (es := es) (Nat.le_refl _) hI.pos
    (new := List.replicate lv.toNat (zeroAV z)) ?_ ?_ (by rw [hlen]; omega) ?_ (K := K) hk
  · rw [hlen] at key; exact ⟨fun _ => (Below.refl _ _).alloc (Nat.le_refl _) _, key⟩
  · intro y hy
    obtain rfl := (List.mem_replicate.1 hy).2
    rw [zeroAV_cells z hI.notup]
    refine ⟨by simp [hI.cells], ?_⟩
    intro c hc
    obtain ⟨v, _, rfl⟩ := List.mem_map.1 hc
    exact Or.inr ⟨v, rfl⟩
  · intro i' y hy jj c hc
    rw [List.getElem?_replicate] at hy
    split at hy
    · rename_i hlt
      obtain rfl := Option.some.inj hy
      rw [zeroAV_cells z hI.notup, List.getElem?_map, Option.map_eq_some_iff] at hc
      obtain ⟨v, hv, rfl⟩ := hc
      have hjj : jj < es := by rw [← hI.cells]; simpa using (List.getElem?_eq_some_iff.1 hv).1
      refine ⟨v, ?_, hI.ones v (List.mem_of_getElem? hv), fun v' e => by simpa using e⟩
      rw [cell_alloc_new, Nat.zero_add, madeCells_get _ _ _ _ _ hI.cells (by omega) hjj]
      simpa using hv
    · simp at hy
  · refine blockOk_alloc ?_
    rw [size_madeCells]; omega

end
end Go.Proofs.Ythlehngbadianaa.Ai
/- Places in the frames of a state; a slot takes over what a place owned. -/
set_option linter.unusedVariables false
set_option linter.unusedSimpArgs false
namespace Go.Proofs.Ythlehngbadianaa.Ai
open Go Go.RowKit

def Al.modv : Al → Nat → (AV → AV) → Al
  | [], _, _ => []
  | (a, x) :: l, k, g => if a = k then (a, g x) :: l else (a, x) :: Al.modv l k g
theorem Al.get_modv (l : Al) (k : Nat) (g : AV → AV) (k' : Nat) : (l.modv k g).get k' = if k' = k then (l.get k').map g else l.get k' := by
  induction l with
  | nil => simp [Al.modv, Al.get]
  | cons a l ih =>
    obtain ⟨a, x⟩ := a
    simp only [Al.modv]
    by_cases h : a = k
    · subst h
      simp only [if_true, Al.get]
      by_cases h' : a = k'
      · simp [h']
      · simp [h', Ne.symm h']
    · simp only [h, if_false, Al.get, ih]
      by_cases h' : a = k'
      · subst h'; simp [h]
      · simp [h']

def Fr.modr (fr : Fr) (b : Base) (g : AV → AV) : Fr :=
  match b with
  | .sl k => { fr with sl := fr.sl.modv k g }
  | .bx t => { fr with bx := fr.bx.modv t g }

theorem Fr.root_modr (fr : Fr) (b : Base) (g : AV → AV) (b' : Base) : (fr.modr b g).root b' = if b' = b then (fr.root b').map g else fr.root b' := by
  cases b <;> cases b' <;> simp [Fr.modr, Fr.root, Al.get_modv]

/-- The cell at a place, k frames out, is set. -/
def setp : List Fr → Nat → Pl → AV → List Fr
  | [], _, _, _ => []
  | fr :: F, 0, p, c => fr.modr p.base (fun x => x.setC p.path p.j c) :: F
  | fr :: F, k + 1, p, c => fr :: setp F k p c

theorem setp_length : ∀ (S : List Fr) (k : Nat) (p : Pl) (c : AV), (setp S k p c).length = S.length
  | [], _, _, _ => rfl
  | _ :: _, 0, _, _ => rfl
  | _ :: F, k + 1, p, c => by simp [setp, setp_length F k p c]

theorem setp_rw : ∀ (S : List Fr) (k : Nat) (p : Pl) (c : AV), (setp S k p c).map Fr.rw = S.map Fr.rw
  | [], _, _, _ => rfl
  | fr :: F, 0, p, c => by cases h : p.base <;> simp [setp, Fr.modr, h]
  | fr :: F, k + 1, p, c => by simp [setp, setp_rw F k p c]

theorem rootsOf_setp : ∀ (S : List Fr) (k : Nat) (p : Pl) (c : AV), k < S.length → rootsOf (setp S k p c) = setR (rootsOf S) (S.length - 1 - k) p c
  | [], k, p, c, h => by simp at h
  | fr :: F, 0, p, c, _ => by
    funext f b
    simp only [setp, rootsOf, setR, List.length_cons, Nat.add_sub_cancel, Nat.sub_zero]
    by_cases hf : f = F.length
    · subst hf
      simp only [if_true, true_and, Fr.root_modr]
    · simp [hf]
  | fr :: F, k + 1, p, c, h => by
    simp only [List.length_cons] at h
    have ih := rootsOf_setp F k p c (by omega)
    funext f b
    simp only [setp, rootsOf, setp_length, ih, List.length_cons]
    simp only [setR]
    have e : F.length + 1 - 1 - (k + 1) = F.length - 1 - k := by omega
    rw [e]
    by_cases hf : f = F.length
    · subst hf
      have : ¬ (F.length = F.length - 1 - k) := by omega
      simp [this]
    · simp only [hf, if_false]

theorem AV.setSub_skel (x : AV) (path : List Hop) (y : AV) (h : path ≠ []) : ∀ u, Shape x u → Shape (x.setSub path y) u := by
  intro u hu
  induction path generalizing y with
  | nil => exact absurd rfl h
  | cons a par ih =>
    obtain ⟨j, i⟩ := a
    simp only [AV.setSub]
    cases hs : x.sub par with
    | none => exact hu
    | some z =>
      cases hc : z.cells[j]? with
      | none => simpa [hs, hc] using hu
      | some c =>
        simp only [hs, hc]
        cases par with
        | nil =>
          simp only [AV.setSub]
          simp only [AV.sub, Option.some.injEq] at hs
          subst hs
          have hone : (c.setElem i y).one = c.one := AV.one_setElem c i y
          cases hx : x.one with
          | true =>
            have hcx : c = x := by
              rw [AV.cells_one hx] at hc
              cases j with
              | zero => simpa using hc.symm
              | succ j => simp at hc
            subst hcx
            have hj : j = 0 := by
              rw [AV.cells_one hx] at hc
              cases j with
              | zero => rfl
              | succ j => simp at hc
            subst hj
            have hu' : u.oneCell' = true := by cases c <;> simp_all [Shape, AV.one]
            have : (c.setCell 0 (c.setElem i y)) = c.setElem i y := by cases c <;> simp_all [AV.setCell, AV.one]
            rw [this]
            rw [hx] at hone
            cases hk : c.setElem i y <;> simp_all [Shape, AV.one]
          | false => cases x <;> simp [AV.one] at hx <;> simpa [AV.setCell, Shape] using hu
        | cons b par => exact ih _ (by simp)

theorem Shape.setC {x : AV} {u : Value} (h : Shape x u) (path : List Hop) (j : Nat) (c : AV) (hc : c.one = true) : Shape (x.setC path j c) u := by
  simp only [AV.setC]
  cases hs : x.sub path with
  | none => exact h
  | some y =>
    simp only
    cases path with
    | cons a par => exact AV.setSub_skel x _ _ (by simp) u h
    | nil =>
      simp only [AV.setSub]
      simp only [AV.sub, Option.some.injEq] at hs
      subst hs
      cases hx : x.one with
      | true =>
        have hu' : u.oneCell' = true := by cases x <;> simp_all [Shape, AV.one]
        by_cases hj : j = 0
        · have : x.setCell j c = c := by cases x <;> simp_all [AV.setCell, AV.one]
          rw [this]
          cases c <;> simp_all [Shape, AV.one]
        · have : x.setCell j c = x := by cases x <;> simp_all [AV.setCell, AV.one]
          rw [this]; exact h
      | false => cases x <;> simp [AV.one] at hx <;> simpa [AV.setCell, Shape] using h

section
variable {P : Program} {w : World} {G : Gh} {n : Nat} {a : Act} {fr : Fr} {F : List Fr}

theorem shape_setp {k : Nat} {p : Pl} {c : AV} (hc : c.one = true) {fr' : Fr} {F' : List Fr} (he : setp (fr :: F) k p c = fr' :: F') (tm : Nat → Value)
    (h : ∀ k x, fr.sl.get k = some x → Shape x (tm k) ∧ ∀ v ∈ flatV (tm k), v.oneCell' = true) : ∀ k x, fr'.sl.get k = some x → Shape x (tm k) ∧ ∀ v ∈ flatV (tm k), v.oneCell' = true := by
  cases k with
  | succ k => simp only [setp, List.cons.injEq] at he; obtain ⟨rfl, _⟩ := he; exact h
  | zero =>
    simp only [setp, List.cons.injEq] at he
    obtain ⟨rfl, _⟩ := he
    intro k' x hx
    cases hb : p.base with
    | bx t => simp only [hb, Fr.modr] at hx; exact h k' x hx
    | sl s =>
      simp only [hb, Fr.modr, Al.get_modv] at hx
      split at hx
      · simp only [Option.map_eq_some_iff] at hx
        obtain ⟨y, hy, rfl⟩ := hx
        exact ⟨(h k' y hy).1.setC _ _ _ hc, (h k' y hy).2⟩
      · exact h k' x hx

/-- The frame below the top of what setp gives. -/
theorem setp_cons (fr : Fr) (F : List Fr) (k : Nat) (p : Pl) (c : AV) : ∃ fr' F', setp (fr :: F) k p c = fr' :: F' ∧ F'.length = F.length := by
  cases k with
  | zero => exact ⟨_, _, rfl, rfl⟩
  | succ k => exact ⟨_, _, rfl, setp_length F k p c⟩

/-- No cell of this frame refers to a base. -/
def NoHit (fr : Fr) (b : Base) : Prop := ∀ b' x, fr.root b' = some x → ∀ c ∈ x.cells, hits b c = false

theorem NoHit.kill (fr : Fr) (b : Base) : NoHit (fr.kill b) b := by
  intro b' x hx c hc
  have hroot : (fr.kill b).root b' = (fr.root b').map (killV b) := by
    cases b' <;> simp [Fr.root, Fr.kill, Al.get_mapv]
  rw [hroot, Option.map_eq_some_iff] at hx
  obtain ⟨y, _, rfl⟩ := hx
  rw [killV_cells, List.mem_map] at hc
  obtain ⟨c0, _, rfl⟩ := hc
  simp only [killC]
  split
  · rfl
  · rename_i h; simpa using h

theorem NoHit.off {p2 : Pl} (hn : NoHit fr p2.base) (cl : Clean (rootsOf (fr :: F))) : ∀ f b path r x, rowOf (rootsOf (fr :: F)) f b path = some r → .ref x ∈ r → x.off (TT F.length p2) (NN F.length p2) f := by
  intro f b path r x hr hx
  by_cases hf : f = F.length
  · subst hf
    cases path with
    | cons a path => exact absurd hx (cl _ _ _ _ _ _ hr)
    | nil =>
      simp only [rowOf, rootsOf, if_true] at hr
      cases hy : fr.root b with
      | none => simp [hy] at hr
      | some y =>
        simp only [hy, Option.bind_some, AV.row, AV.sub, Option.map_some, Option.some.injEq] at hr
        subst hr
        simp only [List.mem_map] at hx
        obtain ⟨c, hc, he⟩ := hx
        have hcx : c = x := by cases c <;> simp [AV.sh] at he <;> exact he
        subst hcx
        exact off_hits _ _ _ _ (Nat.le_refl _) (hn b y hy c hc)
  · by_cases hf2 : f < F.length
    · exact off_lt _ _ _ _ hf2
    · have : rootsOf (fr :: F) f b = none := rootsOf_ge _ _ _ (by simp; omega)
      simp [rowOf, this] at hr

theorem setR_weak_junk {R : Rt} {f : Nat} {p : Pl} {r0 : List Sh} (h : rowOf R f p.base p.path = some r0) (hj : p.j < r0.length) : Weak (setR R f p .junk) R := by
  intro f' b' path' r' hr
  rcases rowOf_setR_leaf h hj (c := .junk) rfl rfl hr with ⟨rfl, rfl, rfl, rfl⟩ | ⟨_, h2⟩
  · refine ⟨r0, h, by simp, ?_⟩
    intro j s hs
    rw [List.getElem?_set] at hs
    by_cases hjj : p.j = j
    · subst hjj; left; simp [hj, AV.sh] at hs; exact hs.symm
    · right; simpa [hjj] using hs
  · exact ⟨r', h2, rfl, fun _ _ h => Or.inr h⟩

/-- A cell of a slot takes over what a place owned (and perhaps more). -/
theorem Shp.setR (d : Nat) (R : Rt) (f : Nat) (p : Pl) (c : AV) (hc : c.one = true) : Shp d R (setR R f p c) := by
  intro f' k x' _ hx
  simp only [Ai.setR] at hx
  split at hx
  · rename_i he
    simp only [Option.map_eq_some_iff] at hx
    obtain ⟨x, hx, rfl⟩ := hx
    exact ⟨x, hx, fun u hu => hu.setC _ _ _ hc⟩
  · exact ⟨x', hx, fun _ h => h⟩
theorem Shp.setp {S S' : List Fr} {k : Nat} {p : Pl} {c : AV} (d : Nat) (hc : c.one = true) (hk : k < S.length) (he : setp S k p c = S') : Shp d (rootsOf S) (rootsOf S') := by
  rw [← he, rootsOf_setp _ _ _ _ hk]; exact Shp.setR _ _ _ _ _ hc

theorem Rel.adopt (h : Rel w G n a fr F) {k : Nat} {p : Pl} {es : Nat} {xs : List AV} (hk : k ≤ F.length) (hsrc : cellAV (rootsOf (fr :: F)) (F.length - k) p = some (.own es xs)) (hwk : G.wr (F.length - k) = true)
    {d j : Nat} {x0 c0 : AV} (hx0 : fr.sl.get d = some x0) (hc0 : x0.cells[j]? = some c0) (hl0 : c0.sh.leaf = true) (hne : ¬ (k = 0 ∧ p.base = .sl d)) (hn : NoHit fr (.sl d))
    (off len : Nat) (hlen : off + len ≤ xs.length) (new : List AV) (hnew : Plains es new) (B o cap : Nat)
    (hB : B = (G.h (F.length - k) p.base p.path p.j).1 ∨ ∀ ow : Owner, ow.valid (rootsOf (fr :: F)) → ow.blk G ≠ B)
    (hcells : ∀ i jj, i < len → jj < es → w.cell? ⟨B, o + i * es + jj, none⟩ = w.cell? ⟨(G.h (F.length - k) p.base p.path p.j).1, (G.h (F.length - k) p.base p.path p.j).2.1 + (off + i) * es + jj, none⟩)
    (hnewc : NewAt w B (o + len * es) es new) (hhead : (flatV (a.tmps.getD d undef))[j]? = some (.slice (some ⟨B, o, none⟩) (len + new.length) cap)) (hcap : len + new.length ≤ cap) (hblk : blockOk w true B (o + cap * es)) :
    ∃ G' fr' F', setp (setp (fr :: F) k p .junk) 0 ⟨.sl d, [], j⟩ (.own es ((xs.drop off).take len ++ new)) = fr' :: F' ∧ F'.length = F.length ∧ Rel w G' n a fr' F' ∧ G'.wr = G.wr ∧ G'.tm = G.tm ∧
      ∀ b, Un G (rootsOf (fr :: F)) b → b ≠ B → Un G' (rootsOf (fr' :: F')) b := by
  obtain ⟨fr1, F1, e1, hl1⟩ := setp_cons fr F k p .junk
  obtain ⟨fr2, F2, e2, hl2⟩ := setp_cons fr1 F1 0 ⟨.sl d, [], j⟩ (.own es ((xs.drop off).take len ++ new))
  have hkk : (fr :: F).length - 1 - k = F.length - k := by simp
  have hR1 : rootsOf (fr1 :: F1) = setR (rootsOf (fr :: F)) (F.length - k) p .junk := by
    rw [← e1, rootsOf_setp _ _ _ _ (by simp; omega), hkk]
  have hR2 : rootsOf (fr2 :: F2) = setR (rootsOf (fr1 :: F1)) F.length ⟨.sl d, [], j⟩ (.own es ((xs.drop off).take len ++ new)) := by
    rw [← e2, rootsOf_setp _ _ _ _ (by simp)]
    simp [hl1]
  obtain ⟨r1, hr1, hs1, hj1⟩ := cellAV_cellOf hsrc
  have hrow0 : rowOf (rootsOf (fr :: F)) F.length (.sl d) [] = some (x0.cells.map AV.sh) := by
    simp [rowOf, rootsOf, Fr.root, hx0, AV.row, AV.sub]
  have hjlt : j < x0.cells.length := (List.getElem?_eq_some_iff.1 hc0).1
  -- the slot's own row is not touched by the first step
  have hrow1 : rowOf (setR (rootsOf (fr :: F)) (F.length - k) p .junk) F.length (.sl d) [] = some (x0.cells.map AV.sh) := by
    rw [rowOf_setR_other hr1 hj1 _ rfl _ _ _ (fun e => hne ⟨by omega, e.2.1.symm⟩) (fun e => hne ⟨by omega, e.2.1.symm⟩)]
    exact hrow0
  have hoff := hn.off (p2 := ⟨.sl d, [], j⟩) h.clean
  obtain ⟨G', hok, hcl, hw, htm, _, hun⟩ := OkList h.ok h.clean hsrc hwk (p2 := ⟨.sl d, [], j⟩) hrow1 (by simpa using hjlt)
    (by intro s hs; simp only [List.getElem?_map, hc0, Option.map_some, Option.some.injEq] at hs; rw [← hs]; exact hl0) h.wr0 off len hlen new hnew B o cap hB hcells hnewc
    (by simp only [conc, inMem, Bool.false_eq_true, if_false, h.tm]; exact hhead) hcap hblk (by
      intro f b path r x hr hx
      rcases rowOf_setR_leaf hr1 hj1 (c := .junk) rfl rfl hr with ⟨rfl, rfl, rfl, rfl⟩ | ⟨_, h6⟩
      · rcases List.mem_or_eq_of_mem_set hx with hx | hx
        · exact hoff _ _ _ _ _ hr1 hx
        · simp [AV.sh] at hx
      · exact hoff _ _ _ _ _ h6 hx)
  rw [← hR1, ← hR2] at hok hcl hun
  have hrw : (fr2 :: F2).map Fr.rw = (fr :: F).map Fr.rw := by rw [← e2, setp_rw, ← e1, setp_rw]
  refine ⟨G', fr2, F2, by rw [e1, e2], by omega, ⟨hok, ?_, ?_, h.size, ?_, h.defers, hcl⟩, hw, htm, ?_⟩
  · intro k'; rw [htm, hl2, hl1]; exact h.tm k'
  · have s1 := shape_setp (c := .junk) rfl e1 _ h.shape
    exact shape_setp (c := .own es ((xs.drop off).take len ++ new)) rfl e2 _ s1
  · rw [hrw]; exact h.wr.cong hw
  · intro b hu hb
    exact hun b hu hb

end
end Go.Proofs.Ythlehngbadianaa.Ai
