/- The state of a call: slots that own nothing, roots that own; references. -/
import Derived.Test.YthlehngbadianaaOwLens
import Derived.Calls
import Derived.Laws.Entries
set_option linter.unusedVariables false
set_option linter.unusedSimpArgs false
set_option linter.unnecessarySimpa false
namespace Go.Proofs.Ythlehngbadianaa.Ow
open Go Go.RowKit

abbrev Al := List (Nat × AV)
def Al.get : Al → Nat → Option AV
  | [], _ => none
  | (a, x) :: l, k => if a = k then some x else Al.get l k
def Al.del : Al → Nat → Al
  | [], _ => []
  | (a, x) :: l, k => if a = k then Al.del l k else (a, x) :: Al.del l k
def Al.set (l : Al) (k : Nat) (x : AV) : Al := (k, x) :: Al.del l k
theorem Al.get_del (l : Al) (k k' : Nat) : (Al.del l k).get k' = if k' = k then none else l.get k' := by
  induction l with
  | nil => simp [Al.del, Al.get]
  | cons a l ih =>
    obtain ⟨a, x⟩ := a
    simp only [Al.del]
    by_cases h : a = k
    · subst h
      simp only [if_true, ih, Al.get]
      by_cases h' : k' = a
      · simp [h']
      · simp [h', Ne.symm h']
    · simp only [h, if_false, Al.get, ih]
      by_cases h' : a = k'
      · subst h'; simp [h]
      · simp [h']
theorem Al.get_set (l : Al) (k k' : Nat) (x : AV) : (Al.set l k x).get k' = if k' = k then some x else l.get k' := by
  simp only [Al.set, Al.get, Al.get_del]
  by_cases h : k' = k
  · simp [h]
  · simp [h, Ne.symm h]

/-- Slots, roots, references that lie in roots. -/
structure St where
  sl : Al
  rt : Al
  rf : List (Nat × Nat × AV)

inductive RLoc where
  | mem (B o : Nat)
  | val (u : Value)
def rcell (w : World) : RLoc → Nat → Option Value
  | .mem B o, j => w.cell? ⟨B, o + j, none⟩
  | .val u, j => if j = 0 then some u else none

def RootOk (w : World) (F : Fp) (x : AV) (l : RLoc) (T : Fp) : Prop :=
  match l with
  | .mem B o => Nd w F x.cells B o T
  | .val u => x.one = true ∧ Rep w F x u T

structure Ok (w : World) (F : Fp) (env : Nat → RLoc) (T : Nat → Fp) (rt : Al) : Prop where
  root : ∀ r x, rt.get r = some x → RootOk w F x (env r) (T r)
  dis : ∀ r r' x x' b a, rt.get r = some x → rt.get r' = some x' → T r b a → T r' b a → r = r'
  sub : ∀ r x b a, rt.get r = some x → T r b a → F b a
  fb : ∀ b a, F b a → b < w.heap.size

def ptrTo (B o : Nat) : Value := .pointer (some ⟨B, o, none⟩)
def rloc (w : World) (env : Nat → RLoc) (rt : Al) (r : Nat) (q : List Hop) : Option RLoc :=
  (rt.get r).bind fun x => match env r with
  | .mem B o => (ploc w (.obj x) (ptrTo B o) 0 q).map fun l => .mem l.1 l.2
  | .val u => match q with
    | [] => some (.val u)
    | (j, i) :: p => if j = 0 then (ploc w x u i p).map fun l => .mem l.1 l.2 else none
def cellAt (rt : Al) (r : Nat) (q : List Hop) (j : Nat) : Option AV := (rt.get r).bind fun x => x.cellIn q j

theorem cellAt_cons (rt : Al) (r j1 i : Nat) (p : List Hop) (j : Nat) : cellAt rt r ((j1, i) :: p) j = (rt.get r).bind fun x => (x.cells[j1]?).bind fun c => c.ccell i p j := by
  simp only [cellAt, AV.cellIn, AV.sub, AV.ccell, AV.csub]
  cases rt.get r with
  | none => rfl
  | some x =>
    simp only [Option.bind_some]
    cases x.cells[j1]? with
    | none => rfl
    | some c => rfl

/-- What one root's change leaves alone. -/
structure Stab (w : World) (env : Nat → RLoc) (rt : Al) (w' : World) (rt' : Al) (r : Nat) (path : List Hop) : Prop where
  loc : ∀ r' q, (r' ≠ r ∨ q.length ≤ path.length) → rloc w' env rt' r' q = rloc w env rt r' q
  cell : ∀ r' q j cx, (r' ≠ r ∨ q.length ≤ path.length) → cellAt rt r' q j = some cx → (r' = r ∧ q = path) ∨
    ∃ l cx', rloc w env rt r' q = some l ∧ rcell w' l j = rcell w l j ∧ cellAt rt' r' q j = some cx' ∧ Sk cx cx'

theorem Nd.cell {w : World} {F : Fp} {cs : List AV} {B o : Nat} {T : Fp} (h : Nd w F cs B o T) {j : Nat} {c : AV} (hj : cs[j]? = some c) : ∃ u S, w.cell? ⟨B, o + j, none⟩ = some u ∧ T B (o + j) ∧ Rep w F c u S ∧ ∀ b a, S b a → T b a := by
  obtain ⟨u, S, h1, h2, h3, h4, _⟩ := cell_lens h hj
  exact ⟨u, S, h1, h4, h2, fun b a hs => (h3 b a hs).1⟩
theorem rep_obj {w : World} {F : Fp} {x : AV} {B o : Nat} {T : Fp} : Rep w F (.obj x) (ptrTo B o) T ↔ Nd w F x.cells B o T := by
  constructor
  · intro h
    generalize hc : AV.obj x = c at h
    generalize hu : ptrTo B o = u at h
    cases h <;> simp at hc
    case obj x' B' o' u S hb hc' hr hd ho hS hT =>
      simp only [ptrTo, Value.pointer.injEq, Option.some.injEq, Addr.mk.injEq, and_true] at hu
      obtain ⟨rfl, rfl⟩ := hu
      subst hc
      exact ⟨u, S, hb, hc', hr, hd, ho, hS, hT⟩
  · rintro ⟨u, S, hb, hc', hr, hd, ho, hS, hT⟩
    exact .obj u S hb hc' hr hd ho hS hT

theorem cellIn_obj (x : AV) (q : List Hop) (j : Nat) : (AV.obj x).ccell 0 q j = x.cellIn q j := rfl
theorem cellIn_one {x : AV} (h : x.one = true) (i : Nat) (p : List Hop) (j : Nat) : x.cellIn ((0, i) :: p) j = x.ccell i p j := by
  simp only [AV.cellIn, AV.sub, AV.cells_one h, List.getElem?_cons_zero, Option.bind_some, AV.ccell, AV.csub]
theorem setCell_one {x : AV} (h : x.one = true) (c : AV) : x.setCell 0 c = c := by cases x <;> first | rfl | simp [AV.one] at h
theorem sub_one {x : AV} (h : x.one = true) {j i : Nat} {p : List Hop} {z : AV} (hz : x.sub ((j, i) :: p) = some z) : j = 0 ∧ x.csub i p = some z := by
  cases j with
  | succ j => simp [AV.sub, AV.cells_one h] at hz
  | zero => exact ⟨rfl, by simpa only [AV.sub, AV.cells_one h, List.getElem?_cons_zero, Option.bind_some, AV.csub] using hz⟩

/-- A root as one cell. -/
structure RCell (w : World) (F : Fp) (x : AV) (l : RLoc) (T : Fp) (c : AV) (u : Value) : Prop where
  rep : Rep w F c u T
  kind : (∃ B o, l = .mem B o ∧ c = .obj x ∧ u = ptrTo B o) ∨ (l = .val u ∧ c = x ∧ x.one = true)
theorem RootOk.rcell {w : World} {F : Fp} {x : AV} {l : RLoc} {T : Fp} (h : RootOk w F x l T) : ∃ c u, RCell w F x l T c u := by
  cases l with
  | mem B o => exact ⟨_, _, rep_obj.2 h, .inl ⟨B, o, rfl, rfl, rfl⟩⟩
  | val u => exact ⟨_, _, h.2, .inr ⟨rfl, rfl, h.1⟩⟩
theorem RootOk.keep {w : World} {F : Fp} {x : AV} {l : RLoc} {T : Fp} (h : RootOk w F x l T) {w' : World} {F' : Fp} (k : Kp w F w' F' T) : RootOk w' F' x l T := by
  cases l with
  | mem B o => exact Nd.keep h k
  | val u => exact ⟨h.1, h.2.keep k⟩

/-- A root that is left alone. -/
theorem rloc_keep {w : World} {F : Fp} {x : AV} {T : Fp} {w' : World} {F' : Fp} {env : Nat → RLoc} {rt rt' : Al} {r : Nat} (hx : rt.get r = some x) (hx' : rt'.get r = some x) (h : RootOk w F x (env r) T) (k : Kp w F w' F' T) (q : List Hop) : rloc w' env rt' r q = rloc w env rt r q := by
  simp only [rloc, hx, hx', Option.bind_some]
  cases he : env r with
  | mem B o =>
    rw [he] at h
    simp only [ploc_keep q _ _ T 0 (rep_obj.2 h) k]
  | val u =>
    rw [he] at h
    cases q with
    | nil => rfl
    | cons a p => simp only [ploc_keep p _ _ T a.2 h.2 k]
/-- Of a place: where it lies, what stands there. -/
theorem RootOk.at_ {w : World} {F : Fp} {T : Fp} {env : Nat → RLoc} {rt : Al} {r : Nat} {x : AV} (hx : rt.get r = some x) (h : RootOk w F x (env r) T) {q : List Hop} {j : Nat} {cx : AV} (hc : x.cellIn q j = some cx) :
    ∃ l u S, rloc w env rt r q = some l ∧ Ow.rcell w l j = some u ∧ Rep w F cx u S ∧ (∀ b a, S b a → T b a) ∧ ∀ B o, l = .mem B o → T B (o + j) := by
  simp only [rloc, hx, Option.bind_some]
  cases he : env r with
  | mem B o =>
    rw [he] at h
    obtain ⟨B', o', u', S, g1, g2, g3, g4, g5⟩ := ccell_loc q (.obj x) (ptrTo B o) T 0 j cx (rep_obj.2 h) hc
    refine ⟨.mem B' o', u', S, by simp only [g1, Option.map_some], g2, g4, g5, ?_⟩
    intro B2 o2 e
    obtain ⟨rfl, rfl⟩ : B' = B2 ∧ o' = o2 := by simpa using e
    exact g3
  | val u =>
    rw [he] at h
    cases q with
    | nil =>
      simp only [AV.cellIn, AV.sub, Option.bind_some, AV.cells_one h.1] at hc
      cases j with
      | succ j => simp at hc
      | zero =>
        simp at hc
        subst hc
        exact ⟨.val u, u, T, rfl, rfl, h.2, fun _ _ h => h, fun B o e => by cases e⟩
    | cons a p =>
      obtain ⟨j1, i⟩ := a
      obtain ⟨y, hy⟩ : ∃ y, x.sub ((j1, i) :: p) = some y := by
        cases hs : x.sub ((j1, i) :: p) with
        | none => simp [AV.cellIn, hs] at hc
        | some y => exact ⟨y, rfl⟩
      obtain ⟨rfl, _⟩ := sub_one h.1 hy
      rw [cellIn_one h.1] at hc
      obtain ⟨B', o', u', S, g1, g2, g3, g4, g5⟩ := ccell_loc p x u T i j cx h.2 hc
      refine ⟨.mem B' o', u', S, by simp only [if_true, g1, Option.map_some], g2, g4, g5, ?_⟩
      intro B2 o2 e
      obtain ⟨rfl, rfl⟩ : B' = B2 ∧ o' = o2 := by simpa using e
      exact g3

/-- What lies in roots. -/
def inR (T : Nat → Fp) (rt : Al) : Fp := fun b a => ∃ r x, rt.get r = some x ∧ T r b a
/-- What a root's node is worth, and how another one is put there. -/
theorem root_lens {w : World} {F : Fp} {env : Nat → RLoc} {T : Nat → Fp} {rt : Al} (ok : Ok w F env T rt) {r : Nat} {x z : AV} {path : List Hop} (hx : rt.get r = some x) (hz : x.sub path = some z) (hm : path = [] → ∃ B o, env r = .mem B o) :
    ∃ B o Tz, rloc w env rt r path = some (.mem B o) ∧ Nd w F z.cells B o Tz ∧ (∀ b a, Tz b a → T r b a) ∧
      ∀ (w' : World) (F' : Fp) (z' : AV) (T'' : Fp), z'.cells.length = z.cells.length → Nd w' F' z'.cells B o T'' → Kp w F w' F' (fun b a => inR T rt b a ∧ ¬ Tz b a) → (∀ b a, T'' b a → inR T rt b a → Tz b a) → (∀ b a, inR T rt b a → ¬ Tz b a → F' b a) → (∀ b a, T'' b a → F' b a) → (∀ b a, F' b a → b < w'.heap.size) →
        Ok w' F' env (fun r' => if r' = r then (fun b a => (T r b a ∧ ¬ Tz b a) ∨ T'' b a) else T r') (rt.set r (x.setSub path z')) ∧ Stab w env rt w' (rt.set r (x.setSub path z')) r path := by
  have hroot := ok.root r x hx
  -- the other roots
  have hoth : ∀ {Tz : Fp}, (∀ b a, Tz b a → T r b a) → ∀ r' x', r' ≠ r → rt.get r' = some x' → ∀ b a, T r' b a → inR T rt b a ∧ ¬ Tz b a := by
    intro Tz h3 r' x' hne hx' b a ht
    exact ⟨⟨_, _, hx', ht⟩, fun hh => hne (ok.dis _ _ _ _ _ _ hx' hx ht (h3 _ _ hh))⟩
  have hcommon : ∀ {Tz : Fp}, (∀ b a, Tz b a → T r b a) → ∀ (w' : World) (F' : Fp) (z' : AV) (T'' : Fp), RootOk w' F' (x.setSub path z') (env r) (fun b a => (T r b a ∧ ¬ Tz b a) ∨ T'' b a) → Kp w F w' F' (fun b a => inR T rt b a ∧ ¬ Tz b a) → (∀ b a, T'' b a → inR T rt b a → Tz b a) → (∀ b a, inR T rt b a → ¬ Tz b a → F' b a) → (∀ b a, T'' b a → F' b a) → (∀ b a, F' b a → b < w'.heap.size) →
      Ok w' F' env (fun r' => if r' = r then (fun b a => (T r b a ∧ ¬ Tz b a) ∨ T'' b a) else T r') (rt.set r (x.setSub path z')) := by
    intro Tz h3 w' F' z' T'' hr k hn hF hT hb
    have hdis : ∀ r2 x2, r2 ≠ r → rt.get r2 = some x2 → ∀ b a, T r2 b a → ¬ ((T r b a ∧ ¬ Tz b a) ∨ T'' b a) := by
      intro r2 x2 hne hx2 b a ht hh
      rcases hh with hh | hh
      · exact hne (ok.dis _ _ _ _ _ _ hx2 hx ht hh.1)
      · exact (hoth h3 r2 x2 hne hx2 b a ht).2 (hn b a hh ⟨_, _, hx2, ht⟩)
    refine ⟨?_, ?_, ?_, hb⟩
    · intro r' x' hx'
      rw [Al.get_set] at hx'
      by_cases e : r' = r
      · subst e
        simp only [if_true, Option.some.injEq] at hx'
        subst hx'
        simp only [if_true]; exact hr
      · simp only [e, if_false] at hx' ⊢
        exact (ok.root r' x' hx').keep (k.mono (T' := T r') fun b a ht => hoth h3 r' x' e hx' b a ht)
    · intro r1 r2 x1 x2 b a h1 h2 t1 t2
      rw [Al.get_set] at h1 h2
      by_cases e1 : r1 = r <;> by_cases e2 : r2 = r <;> simp only [e1, e2, if_true, if_false] at h1 h2 t1 t2
      · rw [e1, e2]
      · exact absurd t1 (hdis _ _ e2 h2 _ _ t2)
      · exact absurd t2 (hdis _ _ e1 h1 _ _ t1)
      · exact ok.dis _ _ _ _ _ _ h1 h2 t1 t2
    · intro r1 x1 b a h1 t1
      rw [Al.get_set] at h1
      by_cases e1 : r1 = r <;> simp only [e1, if_true, if_false] at h1 t1
      · rcases t1 with t1 | t1
        · exact hF _ _ ⟨_, _, hx, t1.1⟩ t1.2
        · exact hT _ _ t1
      · have := hoth h3 r1 x1 e1 h1 b a t1
        exact hF _ _ this.1 this.2
  have hstab : ∀ {Tz : Fp} {w' : World} {F' : Fp} {z' : AV}, (∀ b a, Tz b a → T r b a) → Kp w F w' F' (fun b a => inR T rt b a ∧ ¬ Tz b a) →
      (∀ q, q.length ≤ path.length → rloc w' env (rt.set r (x.setSub path z')) r q = rloc w env rt r q) →
      (∀ q j cx, q.length ≤ path.length → x.cellIn q j = some cx → q = path ∨ ∃ l cx', rloc w env rt r q = some l ∧ rcell w' l j = rcell w l j ∧ (x.setSub path z').cellIn q j = some cx' ∧ Sk cx cx') →
      Stab w env rt w' (rt.set r (x.setSub path z')) r path := by
    intro Tz w' F' z' h3 k h5 h6
    refine ⟨?_, ?_⟩
    · intro r' q hq
      by_cases e : r' = r
      · subst e; exact h5 q (hq.resolve_left fun h => h rfl)
      · cases hx' : rt.get r' with
        | none => simp [rloc, Al.get_set, e, hx']
        | some x' =>
          exact rloc_keep hx' (by rw [Al.get_set, if_neg e, hx']) (ok.root r' x' hx') (k.mono (T' := T r') fun b a ht => hoth h3 r' x' e hx' b a ht) q
    · intro r' q j cx hq hc
      by_cases e : r' = r
      · subst e
        simp only [cellAt, hx, Option.bind_some] at hc
        rcases h6 q j cx (hq.resolve_left fun h => h rfl) hc with h7 | ⟨l, cx', a1, a2, a3, a4⟩
        · exact .inl ⟨rfl, h7⟩
        · exact .inr ⟨l, cx', a1, a2, by simp only [cellAt, Al.get_set, if_true, Option.bind_some]; exact a3, a4⟩
      · cases hx' : rt.get r' with
        | none => simp [cellAt, hx'] at hc
        | some x' =>
          have kk := k.mono (T' := T r') fun b a ht => hoth h3 r' x' e hx' b a ht
          simp only [cellAt, hx', Option.bind_some] at hc
          obtain ⟨l, u, S, g1, g2, g3, g4, g5⟩ := (ok.root r' x' hx').at_ hx' hc
          refine .inr ⟨l, cx, g1, ?_, by simp only [cellAt, Al.get_set, e, if_false, hx', Option.bind_some]; exact hc, .inl rfl⟩
          cases l with
          | mem B o => simp only [rcell] at g2 ⊢; rw [g2, kk.cell g2 (.inl (g5 B o rfl))]
          | val u => rfl
  cases he : env r with
  | mem B0 o0 =>
    rw [he] at hroot
    obtain ⟨B, o, Tz, k1, k2, k3, k4⟩ := path_lens path (.obj x) (ptrTo B0 o0) (T r) 0 z (rep_obj.2 hroot) (by simpa [AV.csub, AV.elem] using hz)
    refine ⟨B, o, Tz, by simp only [rloc, hx, he, Option.bind_some, k1, Option.map_some], k2, k3, ?_⟩
    intro w' F' z' T'' hl hnd k hn hF hT hb
    obtain ⟨r1, r2, r3⟩ := k4 w' F' z' T'' hl hnd (k.mono fun b a ⟨x1, x2⟩ => ⟨⟨_, _, hx, x1⟩, x2⟩) (fun b a x1 x2 => hn b a x1 ⟨_, _, hx, x2⟩)
    have hcs : (AV.obj x).cset 0 path z' = .obj (x.setSub path z') := by simp [AV.cset, AV.elem, AV.setElem]
    rw [hcs] at r1 r2 r3
    refine ⟨hcommon k3 w' F' z' T'' ?_ k hn hF hT hb, hstab k3 k ?_ ?_⟩
    · rw [he]; exact rep_obj.1 r1
    · intro q hq
      simp only [rloc, Al.get_set, if_true, hx, he, Option.bind_some, r2 0 q hq]
    · intro q j cx hq hc
      rcases r3 0 q j cx hq hc with ⟨_, rfl⟩ | ⟨B', o', cx', a1, a2, a3, a4⟩
      · exact .inl rfl
      · refine .inr ⟨.mem B' o', cx', by simp only [rloc, hx, he, Option.bind_some, a1, Option.map_some], a2, a3, a4⟩
  | val u0 =>
    rw [he] at hroot
    cases path with
    | nil => obtain ⟨B, o, h⟩ := hm rfl; rw [he] at h; cases h
    | cons a p =>
      obtain ⟨j, i⟩ := a
      obtain ⟨rfl, hz'⟩ := sub_one hroot.1 hz
      obtain ⟨B, o, Tz, k1, k2, k3, k4⟩ := path_lens p x u0 (T r) i z hroot.2 hz'
      refine ⟨B, o, Tz, by simp only [rloc, hx, he, Option.bind_some, if_true, k1, Option.map_some], k2, k3, ?_⟩
      intro w' F' z' T'' hl hnd k hn hF hT hb
      obtain ⟨r1, r2, r3⟩ := k4 w' F' z' T'' hl hnd (k.mono fun b a ⟨x1, x2⟩ => ⟨⟨_, _, hx, x1⟩, x2⟩) (fun b a x1 x2 => hn b a x1 ⟨_, _, hx, x2⟩)
      obtain ⟨y1, hy1⟩ : ∃ y1, x.elem i = some y1 := by
        cases he : x.elem i with
        | none => simp [AV.csub, he] at hz'
        | some y1 => exact ⟨y1, rfl⟩
      have hone := r1.avone
      have hcs : x.setSub ((0, i) :: p) z' = x.cset i p z' := by
        simp only [AV.setSub, AV.cells_one hroot.1, List.getElem?_cons_zero, hy1, AV.cset]
        exact setCell_one hroot.1 _
      refine ⟨hcommon k3 w' F' z' T'' ?_ k hn hF hT hb, hstab k3 k ?_ ?_⟩
      · rw [he, hcs]; exact ⟨hone, r1⟩
      · intro q hq
        simp only [rloc, Al.get_set, if_true, hx, he, Option.bind_some]
        cases q with
        | nil => rfl
        | cons a q =>
          simp only [hcs, r2 a.2 q (by simpa using hq)]
      · intro q j cx hq hc
        cases q with
        | nil =>
          right
          simp only [AV.cellIn, AV.sub, Option.bind_some, AV.cells_one hroot.1] at hc
          cases j with
          | succ j => simp at hc
          | zero =>
            simp at hc
            subst hc
            refine ⟨.val u0, x.cset i p z', by simp only [rloc, hx, he, Option.bind_some], rfl, ?_, ?_⟩
            · rw [hcs]; simp [AV.cellIn, AV.sub, AV.cells_one hone]
            · refine .inr ⟨i, y1, y1.setSub p z', hy1, AV.setSub_cells_length _ _ _ _ (by simpa [AV.csub, hy1] using hz') hl, by simp only [AV.cset, hy1]⟩
        | cons a q =>
          obtain ⟨j1, i2⟩ := a
          obtain ⟨y, hy⟩ : ∃ y, x.sub ((j1, i2) :: q) = some y := by
            cases hs : x.sub ((j1, i2) :: q) with
            | none => simp [AV.cellIn, hs] at hc
            | some y => exact ⟨y, rfl⟩
          obtain ⟨rfl, _⟩ := sub_one hroot.1 hy
          rw [cellIn_one hroot.1] at hc
          rcases r3 i2 q j cx (by simpa using hq) hc with ⟨rfl, rfl⟩ | ⟨B', o', cx', a1, a2, a3, a4⟩
          · exact .inl rfl
          · refine .inr ⟨.mem B' o', cx', by simp only [rloc, hx, he, Option.bind_some, if_true, a1, Option.map_some], a2, ?_, a4⟩
            rw [hcs, cellIn_one hone]; exact a3
end Go.Proofs.Ythlehngbadianaa.Ow
