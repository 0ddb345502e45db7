/- The state of a call: slots that own nothing, roots that own; references. -/
import Derived.Test.YthlehngbadianaaDoorOwLens
import Derived.Calls
import Derived.Laws.Entries
set_option linter.unusedVariables false
set_option linter.unusedSimpArgs false
set_option linter.unnecessarySimpa false
namespace Go.Proofs.YthlehngbadianaaDoor.Ow
open Go Go.RowKit
abbrev Al := List (Nat × AV)
def Al.get : Al → Nat → Option AV
  | [], _ => none
  | (a, x) :: l, k => if a = k then some x else Al.get l k
def Al.del : Al → Nat → Al
  | [], _ => []
  | (a, x) :: l, k => if a = k then Al.del l k else (a, x) :: Al.del l k
def Al.set (l : Al) (k : Nat) (x : AV) : Al := (k, x) :: Al.del l k
theorem Al.get_del (l : Al) (k k' : Nat) : (Al.del l k).get k' = if k' = k then none else l.get k' := by
  induction l with
  | nil => simp [Al.del, Al.get]
  | cons a l ih =>
    obtain ⟨a, x⟩ := a
    simp only [Al.del]
    by_cases h : a = k
    · subst h
      simp only [if_true, ih, Al.get]
      by_cases h' : k' = a
      · simp [h']
      · simp [h', Ne.symm h']
    · simp only [h, if_false, Al.get, ih]
      by_cases h' : a = k'
      · subst h'; simp [h]
      · simp [h']
theorem Al.get_set (l : Al) (k k' : Nat) (x : AV) : (Al.set l k x).get k' = if k' = k then some x else l.get k' := by
  simp only [Al.set, Al.get, Al.get_del]
  by_cases h : k' = k
  · simp [h]
  · simp [h, Ne.symm h]
/-- Slots, roots, references that lie in roots. -/
structure St where
  sl : Al
  rt : Al
  rf : List (Nat × Nat × AV)
inductive RLoc where
  | mem (B o : Nat)
  | val (u : Value)
def rcell (w : World) : RLoc → Nat → Option Value
  | .mem B o, j => w.cell? ⟨B, o + j, none⟩
  | .val u, j => if j = 0 then some u else none
def RootOk (w : World) (F : Fp) (x : AV) (l : RLoc) (T : Fp) : Prop :=
  match l with
  | .mem B o => Nd w F x.cells B o T
  | .val u => x.one = true ∧ Rep w F x u T
structure Ok (w : World) (F : Fp) (env : Nat → RLoc) (T : Nat → Fp) (rt : Al) : Prop where
  root : ∀ r x, rt.get r = some x → RootOk w F x (env r) (T r)
  dis : ∀ r r' x x' b a, rt.get r = some x → rt.get r' = some x' → T r b a → T r' b a → r = r'
  sub : ∀ r x b a, rt.get r = some x → T r b a → F b a
  fb : ∀ b a, F b a → b < w.heap.size
def ptrTo (B o : Nat) : Value := .pointer (some ⟨B, o, none⟩)
def rloc (w : World) (env : Nat → RLoc) (rt : Al) (r : Nat) (q : List Hop) : Option RLoc :=
  (rt.get r).bind fun x => match env r with
  | .mem B o => (ploc w (.obj x) (ptrTo B o) 0 q).map fun l => .mem l.1 l.2
  | .val u => match q with
    | [] => some (.val u)
    | (j, i) :: p => if j = 0 then (ploc w x u i p).map fun l => .mem l.1 l.2 else none
def cellAt (rt : Al) (r : Nat) (q : List Hop) (j : Nat) : Option AV := (rt.get r).bind fun x => x.cellIn q j
/-- What one root's change leaves alone. -/
structure Stab (w : World) (env : Nat → RLoc) (rt : Al) (w' : World) (rt' : Al) (r : Nat) (path : List Hop) : Prop where
  loc : ∀ r' q, (r' ≠ r ∨ q.length ≤ path.length) → rloc w' env rt' r' q = rloc w env rt r' q
  cell : ∀ r' q j cx, (r' ≠ r ∨ q.length ≤ path.length) → cellAt rt r' q j = some cx → (r' = r ∧ q = path) ∨
    ∃ l cx', rloc w env rt r' q = some l ∧ rcell w' l j = rcell w l j ∧ cellAt rt' r' q j = some cx' ∧ Sk cx cx'
theorem Nd.cell {w : World} {F : Fp} {cs : List AV} {B o : Nat} {T : Fp} (h : Nd w F cs B o T) {j : Nat} {c : AV} (hj : cs[j]? = some c) : ∃ u S, w.cell? ⟨B, o + j, none⟩ = some u ∧ T B (o + j) ∧ Rep w F c u S ∧ ∀ b a, S b a → T b a := by
  obtain ⟨u, S, h1, h2, h3, h4, _⟩ := cell_lens h hj
  exact ⟨u, S, h1, h4, h2, fun b a hs => (h3 b a hs).1⟩
theorem rep_obj {w : World} {F : Fp} {x : AV} {B o : Nat} {T : Fp} : Rep w F (.obj x) (ptrTo B o) T ↔ Nd w F x.cells B o T := by
  constructor
  · intro h
    generalize hc : AV.obj x = c at h
    generalize hu : ptrTo B o = u at h
    cases h <;> simp at hc
    case obj x' B' o' u S hb hc' hr hd ho hS hT =>
      simp only [ptrTo, Value.pointer.injEq, Option.some.injEq, Addr.mk.injEq, and_true] at hu
      obtain ⟨rfl, rfl⟩ := hu
      subst hc
      exact ⟨u, S, hb, hc', hr, hd, ho, hS, hT⟩
  · rintro ⟨u, S, hb, hc', hr, hd, ho, hS, hT⟩
    exact .obj u S hb hc' hr hd ho hS hT
theorem cellIn_one {x : AV} (h : x.one = true) (i : Nat) (p : List Hop) (j : Nat) : x.cellIn ((0, i) :: p) j = x.ccell i p j := by
  simp only [AV.cellIn, AV.sub, AV.cells_one h, List.getElem?_cons_zero, Option.bind_some, AV.ccell, AV.csub]
theorem setCell_one {x : AV} (h : x.one = true) (c : AV) : x.setCell 0 c = c := by cases x <;> first | rfl | simp [AV.one] at h
theorem sub_one {x : AV} (h : x.one = true) {j i : Nat} {p : List Hop} {z : AV} (hz : x.sub ((j, i) :: p) = some z) : j = 0 ∧ x.csub i p = some z := by
  cases j with
  | succ j => simp [AV.sub, AV.cells_one h] at hz
  | zero => exact ⟨rfl, by simpa only [AV.sub, AV.cells_one h, List.getElem?_cons_zero, Option.bind_some, AV.csub] using hz⟩
/-- A root as one cell. -/
structure RCell (w : World) (F : Fp) (x : AV) (l : RLoc) (T : Fp) (c : AV) (u : Value) : Prop where
  rep : Rep w F c u T
  kind : (∃ B o, l = .mem B o ∧ c = .obj x ∧ u = ptrTo B o) ∨ (l = .val u ∧ c = x ∧ x.one = true)
theorem RootOk.rcell {w : World} {F : Fp} {x : AV} {l : RLoc} {T : Fp} (h : RootOk w F x l T) : ∃ c u, RCell w F x l T c u := by
  cases l with
  | mem B o => exact ⟨_, _, rep_obj.2 h, .inl ⟨B, o, rfl, rfl, rfl⟩⟩
  | val u => exact ⟨_, _, h.2, .inr ⟨rfl, rfl, h.1⟩⟩
theorem RootOk.keep {w : World} {F : Fp} {x : AV} {l : RLoc} {T : Fp} (h : RootOk w F x l T) {w' : World} {F' : Fp} (k : Kp w F w' F' T) : RootOk w' F' x l T := by
  cases l with
  | mem B o => exact Nd.keep h k
  | val u => exact ⟨h.1, h.2.keep k⟩
/-- A root that is left alone. -/
theorem rloc_keep {w : World} {F : Fp} {x : AV} {T : Fp} {w' : World} {F' : Fp} {env : Nat → RLoc} {rt rt' : Al} {r : Nat} (hx : rt.get r = some x) (hx' : rt'.get r = some x) (h : RootOk w F x (env r) T) (k : Kp w F w' F' T) (q : List Hop) : rloc w' env rt' r q = rloc w env rt r q := by
  simp only [rloc, hx, hx', Option.bind_some]
  cases he : env r with
  | mem B o =>
    rw [he] at h
    simp only [ploc_keep q _ _ T 0 (rep_obj.2 h) k]
  | val u =>
    rw [he] at h
    cases q with
    | nil => rfl
    | cons a p => simp only [ploc_keep p _ _ T a.2 h.2 k]
/-- Of a place: where it lies, what stands there. -/
theorem RootOk.at_ {w : World} {F : Fp} {T : Fp} {env : Nat → RLoc} {rt : Al} {r : Nat} {x : AV} (hx : rt.get r = some x) (h : RootOk w F x (env r) T) {q : List Hop} {j : Nat} {cx : AV} (hc : x.cellIn q j = some cx) :
    ∃ l u S, rloc w env rt r q = some l ∧ Ow.rcell w l j = some u ∧ Rep w F cx u S ∧ (∀ b a, S b a → T b a) ∧ ∀ B o, l = .mem B o → T B (o + j) := by
  simp only [rloc, hx, Option.bind_some]
  cases he : env r with
  | mem B o =>
    rw [he] at h
    obtain ⟨B', o', u', S, g1, g2, g3, g4, g5⟩ := ccell_loc q (.obj x) (ptrTo B o) T 0 j cx (rep_obj.2 h) hc
    refine ⟨.mem B' o', u', S, by simp only [g1, Option.map_some], g2, g4, g5, ?_⟩
    intro B2 o2 e
    obtain ⟨rfl, rfl⟩ : B' = B2 ∧ o' = o2 := by simpa using e
    exact g3
  | val u =>
    rw [he] at h
    cases q with
    | nil =>
      simp only [AV.cellIn, AV.sub, Option.bind_some, AV.cells_one h.1] at hc
      cases j with
      | succ j => simp at hc
      | zero =>
        simp at hc
        subst hc
        exact ⟨.val u, u, T, rfl, rfl, h.2, fun _ _ h => h, fun B o e => by cases e⟩
    | cons a p =>
      obtain ⟨j1, i⟩ := a
      obtain ⟨y, hy⟩ : ∃ y, x.sub ((j1, i) :: p) = some y := by
        cases hs : x.sub ((j1, i) :: p) with
        | none => simp [AV.cellIn, hs] at hc
        | some y => exact ⟨y, rfl⟩
      obtain ⟨rfl, _⟩ := sub_one h.1 hy
      rw [cellIn_one h.1] at hc
      obtain ⟨B', o', u', S, g1, g2, g3, g4, g5⟩ := ccell_loc p x u T i j cx h.2 hc
      refine ⟨.mem B' o', u', S, by simp only [if_true, g1, Option.map_some], g2, g4, g5, ?_⟩
      intro B2 o2 e
      obtain ⟨rfl, rfl⟩ : B' = B2 ∧ o' = o2 := by simpa using e
      exact g3
/-- What lies in roots. -/
def inR (T : Nat → Fp) (rt : Al) : Fp := fun b a => ∃ r x, rt.get r = some x ∧ T r b a
/-- What a root's node is worth, and how another one is put there. -/
theorem root_lens {w : World} {F : Fp} {env : Nat → RLoc} {T : Nat → Fp} {rt : Al} (ok : Ok w F env T rt) {r : Nat} {x z : AV} {path : List Hop} (hx : rt.get r = some x) (hz : x.sub path = some z) (hm : path = [] → ∃ B o, env r = .mem B o) :
    ∃ B o Tz, rloc w env rt r path = some (.mem B o) ∧ Nd w F z.cells B o Tz ∧ (∀ b a, Tz b a → T r b a) ∧
      ∀ (w' : World) (F' : Fp) (z' : AV) (T'' : Fp), z'.cells.length = z.cells.length → Nd w' F' z'.cells B o T'' → Kp w F w' F' (fun b a => inR T rt b a ∧ ¬ Tz b a) → (∀ b a, T'' b a → inR T rt b a → Tz b a) → (∀ b a, inR T rt b a → ¬ Tz b a → F' b a) → (∀ b a, T'' b a → F' b a) → (∀ b a, F' b a → b < w'.heap.size) →
        Ok w' F' env (fun r' => if r' = r then (fun b a => (T r b a ∧ ¬ Tz b a) ∨ T'' b a) else T r') (rt.set r (x.setSub path z')) ∧ Stab w env rt w' (rt.set r (x.setSub path z')) r path := by
  have hroot := ok.root r x hx
  -- the other roots
  have hoth : ∀ {Tz : Fp}, (∀ b a, Tz b a → T r b a) → ∀ r' x', r' ≠ r → rt.get r' = some x' → ∀ b a, T r' b a → inR T rt b a ∧ ¬ Tz b a := by
    intro Tz h3 r' x' hne hx' b a ht
    exact ⟨⟨_, _, hx', ht⟩, fun hh => hne (ok.dis _ _ _ _ _ _ hx' hx ht (h3 _ _ hh))⟩
  have hcommon : ∀ {Tz : Fp}, (∀ b a, Tz b a → T r b a) → ∀ (w' : World) (F' : Fp) (z' : AV) (T'' : Fp), RootOk w' F' (x.setSub path z') (env r) (fun b a => (T r b a ∧ ¬ Tz b a) ∨ T'' b a) → Kp w F w' F' (fun b a => inR T rt b a ∧ ¬ Tz b a) → (∀ b a, T'' b a → inR T rt b a → Tz b a) → (∀ b a, inR T rt b a → ¬ Tz b a → F' b a) → (∀ b a, T'' b a → F' b a) → (∀ b a, F' b a → b < w'.heap.size) →
      Ok w' F' env (fun r' => if r' = r then (fun b a => (T r b a ∧ ¬ Tz b a) ∨ T'' b a) else T r') (rt.set r (x.setSub path z')) := by
    intro Tz h3 w' F' z' T'' hr k hn hF hT hb
    have hdis : ∀ r2 x2, r2 ≠ r → rt.get r2 = some x2 → ∀ b a, T r2 b a → ¬ ((T r b a ∧ ¬ Tz b a) ∨ T'' b a) := by
      intro r2 x2 hne hx2 b a ht hh
      rcases hh with hh | hh
      · exact hne (ok.dis _ _ _ _ _ _ hx2 hx ht hh.1)
      · exact (hoth h3 r2 x2 hne hx2 b a ht).2 (hn b a hh ⟨_, _, hx2, ht⟩)
    refine ⟨?_, ?_, ?_, hb⟩
    · intro r' x' hx'
      rw [Al.get_set] at hx'
      by_cases e : r' = r
      · subst e
        simp only [if_true, Option.some.injEq] at hx'
        subst hx'
        simp only [if_true]; exact hr
      · simp only [e, if_false] at hx' ⊢
        exact (ok.root r' x' hx').keep (k.mono (T' := T r') fun b a ht => hoth h3 r' x' e hx' b a ht)
    · intro r1 r2 x1 x2 b a h1 h2 t1 t2
      rw [Al.get_set] at h1 h2
      by_cases e1 : r1 = r <;> by_cases e2 : r2 = r <;> simp only [e1, e2, if_true, if_false] at h1 h2 t1 t2
      · rw [e1, e2]
      · exact absurd t1 (hdis _ _ e2 h2 _ _ t2)
      · exact absurd t2 (hdis _ _ e1 h1 _ _ t1)
      · exact ok.dis _ _ _ _ _ _ h1 h2 t1 t2
    · intro r1 x1 b a h1 t1
      rw [Al.get_set] at h1
      by_cases e1 : r1 = r <;> simp only [e1, if_true, if_false] at h1 t1
      · rcases t1 with t1 | t1
        · exact hF _ _ ⟨_, _, hx, t1.1⟩ t1.2
        · exact hT _ _ t1
      · have := hoth h3 r1 x1 e1 h1 b a t1
        exact hF _ _ this.1 this.2
  have hstab : ∀ {Tz : Fp} {w' : World} {F' : Fp} {z' : AV}, (∀ b a, Tz b a → T r b a) → Kp w F w' F' (fun b a => inR T rt b a ∧ ¬ Tz b a) →
      (∀ q, q.length ≤ path.length → rloc w' env (rt.set r (x.setSub path z')) r q = rloc w env rt r q) →
      (∀ q j cx, q.length ≤ path.length → x.cellIn q j = some cx → q = path ∨ ∃ l cx', rloc w env rt r q = some l ∧ rcell w' l j = rcell w l j ∧ (x.setSub path z').cellIn q j = some cx' ∧ Sk cx cx') →
      Stab w env rt w' (rt.set r (x.setSub path z')) r path := by
    intro Tz w' F' z' h3 k h5 h6
    refine ⟨?_, ?_⟩
    · intro r' q hq
      by_cases e : r' = r
      · subst e; exact h5 q (hq.resolve_left fun h => h rfl)
      · cases hx' : rt.get r' with
        | none => simp [rloc, Al.get_set, e, hx']
        | some x' =>
          exact rloc_keep hx' (by rw [Al.get_set, if_neg e, hx']) (ok.root r' x' hx') (k.mono (T' := T r') fun b a ht => hoth h3 r' x' e hx' b a ht) q
    · intro r' q j cx hq hc
      by_cases e : r' = r
      · subst e
        simp only [cellAt, hx, Option.bind_some] at hc
        rcases h6 q j cx (hq.resolve_left fun h => h rfl) hc with h7 | ⟨l, cx', a1, a2, a3, a4⟩
        · exact .inl ⟨rfl, h7⟩
        · exact .inr ⟨l, cx', a1, a2, by simp only [cellAt, Al.get_set, if_true, Option.bind_some]; exact a3, a4⟩
      · cases hx' : rt.get r' with
        | none => simp [cellAt, hx'] at hc
        | some x' =>
          have kk := k.mono (T' := T r') fun b a ht => hoth h3 r' x' e hx' b a ht
          simp only [cellAt, hx', Option.bind_some] at hc
          obtain ⟨l, u, S, g1, g2, g3, g4, g5⟩ := (ok.root r' x' hx').at_ hx' hc
          refine .inr ⟨l, cx, g1, ?_, by simp only [cellAt, Al.get_set, e, if_false, hx', Option.bind_some]; exact hc, .inl rfl⟩
          cases l with
          | mem B o => simp only [rcell] at g2 ⊢; rw [g2, kk.cell g2 (.inl (g5 B o rfl))]
          | val u => rfl
  cases he : env r with
  | mem B0 o0 =>
    rw [he] at hroot
    obtain ⟨B, o, Tz, k1, k2, k3, k4⟩ := path_lens path (.obj x) (ptrTo B0 o0) (T r) 0 z (rep_obj.2 hroot) (by simpa [AV.csub, AV.elem] using hz)
    refine ⟨B, o, Tz, by simp only [rloc, hx, he, Option.bind_some, k1, Option.map_some], k2, k3, ?_⟩
    intro w' F' z' T'' hl hnd k hn hF hT hb
    obtain ⟨r1, r2, r3⟩ := k4 w' F' z' T'' hl hnd (k.mono fun b a ⟨x1, x2⟩ => ⟨⟨_, _, hx, x1⟩, x2⟩) (fun b a x1 x2 => hn b a x1 ⟨_, _, hx, x2⟩)
    have hcs : (AV.obj x).cset 0 path z' = .obj (x.setSub path z') := by simp [AV.cset, AV.elem, AV.setElem]
    rw [hcs] at r1 r2 r3
    refine ⟨hcommon k3 w' F' z' T'' ?_ k hn hF hT hb, hstab k3 k ?_ ?_⟩
    · rw [he]; exact rep_obj.1 r1
    · intro q hq
      simp only [rloc, Al.get_set, if_true, hx, he, Option.bind_some, r2 0 q hq]
    · intro q j cx hq hc
      rcases r3 0 q j cx hq hc with ⟨_, rfl⟩ | ⟨B', o', cx', a1, a2, a3, a4⟩
      · exact .inl rfl
      · refine .inr ⟨.mem B' o', cx', by simp only [rloc, hx, he, Option.bind_some, a1, Option.map_some], a2, a3, a4⟩
  | val u0 =>
    rw [he] at hroot
    cases path with
    | nil => obtain ⟨B, o, h⟩ := hm rfl; rw [he] at h; cases h
    | cons a p =>
      obtain ⟨j, i⟩ := a
      obtain ⟨rfl, hz'⟩ := sub_one hroot.1 hz
      obtain ⟨B, o, Tz, k1, k2, k3, k4⟩ := path_lens p x u0 (T r) i z hroot.2 hz'
      refine ⟨B, o, Tz, by simp only [rloc, hx, he, Option.bind_some, if_true, k1, Option.map_some], k2, k3, ?_⟩
      intro w' F' z' T'' hl hnd k hn hF hT hb
      obtain ⟨r1, r2, r3⟩ := k4 w' F' z' T'' hl hnd (k.mono fun b a ⟨x1, x2⟩ => ⟨⟨_, _, hx, x1⟩, x2⟩) (fun b a x1 x2 => hn b a x1 ⟨_, _, hx, x2⟩)
      obtain ⟨y1, hy1⟩ : ∃ y1, x.elem i = some y1 := by
        cases he : x.elem i with
        | none => simp [AV.csub, he] at hz'
        | some y1 => exact ⟨y1, rfl⟩
      have hone := r1.avone
      have hcs : x.setSub ((0, i) :: p) z' = x.cset i p z' := by
        simp only [AV.setSub, AV.cells_one hroot.1, List.getElem?_cons_zero, hy1, AV.cset]
        exact setCell_one hroot.1 _
      refine ⟨hcommon k3 w' F' z' T'' ?_ k hn hF hT hb, hstab k3 k ?_ ?_⟩
      · rw [he, hcs]; exact ⟨hone, r1⟩
      · intro q hq
        simp only [rloc, Al.get_set, if_true, hx, he, Option.bind_some]
        cases q with
        | nil => rfl
        | cons a q =>
          simp only [hcs, r2 a.2 q (by simpa using hq)]
      · intro q j cx hq hc
        cases q with
        | nil =>
          right
          simp only [AV.cellIn, AV.sub, Option.bind_some, AV.cells_one hroot.1] at hc
          cases j with
          | succ j => simp at hc
          | zero =>
            simp at hc
            subst hc
            refine ⟨.val u0, x.cset i p z', by simp only [rloc, hx, he, Option.bind_some], rfl, ?_, ?_⟩
            · rw [hcs]; simp [AV.cellIn, AV.sub, AV.cells_one hone]
            · refine .inr ⟨i, y1, y1.setSub p z', hy1, AV.setSub_cells_length _ _ _ _ (by simpa [AV.csub, hy1] using hz') hl, by simp only [AV.cset, hy1]⟩
        | cons a q =>
          obtain ⟨j1, i2⟩ := a
          obtain ⟨y, hy⟩ : ∃ y, x.sub ((j1, i2) :: q) = some y := by
            cases hs : x.sub ((j1, i2) :: q) with
            | none => simp [AV.cellIn, hs] at hc
            | some y => exact ⟨y, rfl⟩
          obtain ⟨rfl, _⟩ := sub_one hroot.1 hy
          rw [cellIn_one hroot.1] at hc
          rcases r3 i2 q j cx (by simpa using hq) hc with ⟨rfl, rfl⟩ | ⟨B', o', cx', a1, a2, a3, a4⟩
          · exact .inl rfl
          · refine .inr ⟨.mem B' o', cx', by simp only [rloc, hx, he, Option.bind_some, if_true, a1, Option.map_some], a2, ?_, a4⟩
            rw [hcs, cellIn_one hone]; exact a3
end Go.Proofs.YthlehngbadianaaDoor.Ow
namespace Go.Proofs.YthlehngbadianaaDoor.Ow
open Go Go.RowKit
/-- Part of a slice. -/
def SubSl (uc : Value) (es off len : Nat) (u : Value) : Prop :=
  (uc = .slice none 0 0 ∧ off = 0 ∧ len = 0 ∧ u = .slice none 0 0) ∨
  ∃ B o n cap ao cap', uc = .slice (some ⟨B, o, none⟩) n cap ∧ u = .slice (some ⟨B, ao, none⟩) len cap' ∧ len ≤ cap' ∧ off + cap' ≤ cap ∧ (cap' = 0 ∨ ao = o + off * es)
/-- A slice of array cells; or (es = 0) what is known of the block. -/
def SaOk (w : World) (B o j es len cap ao : Nat) (u : Value) : Prop :=
  if es = 0 then o = 0 ∧ w.shape? B = some (len, cap) ∧ u.oneCell' = true else u = .slice (some ⟨B, ao, none⟩) len cap ∧ len ≤ cap ∧ (cap = 0 ∨ ao = o + j)
theorem SaOk.one {w : World} {B o j es len cap ao : Nat} {u : Value} (h : SaOk w B o j es len cap ao u) : u.oneCell' = true := by
  unfold SaOk at h
  split at h
  · exact h.2.2
  · rw [h.1]; rfl
theorem SaOk.pos {w : World} {B o j es len cap ao : Nat} {u : Value} (h : SaOk w B o j es len cap ao u) (hes : es ≠ 0) : u = .slice (some ⟨B, ao, none⟩) len cap ∧ len ≤ cap ∧ (cap = 0 ∨ ao = o + j) := by
  unfold SaOk at h; rwa [if_neg hes] at h
theorem Kp.shape {w w' : World} {F F' T : Fp} (k : Kp w F w' F' T) {b : Nat} {s : TypeId × Nat} (h : w.shape? b = some s) : w'.shape? b = some s := by
  obtain ⟨⟨M, a1, _, _⟩, _⟩ := k
  unfold World.shape? at h ⊢
  split at h
  · rename_i c e fz hh
    obtain ⟨arr', fz', h1, h2, _⟩ := a1.blk b c e fz hh
    rw [h1]
    simp only at h ⊢
    rw [h2]; exact h
  · simp at h
theorem SaOk.keep {w w' : World} {F F' T : Fp} (k : Kp w F w' F' T) {B o j es len cap ao : Nat} {u : Value} (h : SaOk w B o j es len cap ao u) : SaOk w' B o j es len cap ao u := by
  unfold SaOk at h ⊢
  split
  · rename_i e; rw [if_pos e] at h; exact ⟨h.1, k.shape h.2.1, h.2.2⟩
  · rename_i e; rw [if_neg e] at h; exact h
section
variable (w : World) (F : Fp) (env : Nat → RLoc) (rt : Al)
/-- A cell's value that owns nothing. -/
def LR1 (c : AV) (u : Value) : Prop :=
  match c with
  | .ref p => ∃ B o, rloc w env rt p.r p.path = some (.mem B o) ∧ u = .pointer (some ⟨B, o + p.j, none⟩)
  | .sl p es off len => ∃ l uc xs, rloc w env rt p.r p.path = some l ∧ cellAt rt p.r p.path p.j = some (.own es xs) ∧ rcell w l p.j = some uc ∧ off + len ≤ xs.length ∧ SubSl uc es off len u
  | .sa p es len cap => ∃ B o ao, rloc w env rt p.r p.path = some (.mem B o) ∧ SaOk w B o p.j es len cap ao u
  | c => Rep w F c u E0
def LR (c : AV) (u : Value) : Prop :=
  match c with
  | .fn f caps => ∃ us : Array Value, u = .func (.func f) #[] us ∧ us.size = caps.length ∧ ∀ (i : Nat) c v, caps[i]? = some c → us[i]? = some v → LR1 w F env rt c v
  | c => LR1 w F env rt c u
def SV1 (x : AV) (u : Value) : Prop :=
  match x with
  | .agg cs => ∃ us : Array Value, u = .agg us ∧ us.size = cs.length ∧ ∀ (i : Nat) c v, cs[i]? = some c → us[i]? = some v → LR w F env rt c v
  | .tup _ => False
  | c => LR w F env rt c u
def SV (x : AV) (u : Value) : Prop :=
  match x with
  | .tup xs => ∃ us : Array Value, u = .tuple us ∧ us.size = xs.length ∧ ∀ (i : Nat) c v, xs[i]? = some c → us[i]? = some v → SV1 w F env rt c v
  | c => SV1 w F env rt c u
end
theorem SubSl.one {uc u : Value} {es off len : Nat} (h : SubSl uc es off len u) : u.oneCell' = true := by
  rcases h with ⟨_, _, _, rfl⟩ | ⟨_, _, _, _, _, _, _, rfl, _⟩ <;> rfl
section
variable {w : World} {F : Fp} {env : Nat → RLoc} {rt : Al}
theorem LR1.one {c : AV} {u : Value} (h : LR1 w F env rt c u) : u.oneCell' = true := by
  cases c <;> simp only [LR1] at h
  case ref p => obtain ⟨_, _, _, rfl⟩ := h; rfl
  case sl p es off len => obtain ⟨_, _, _, _, _, _, _, h⟩ := h; exact h.one
  case sa p es len cap => obtain ⟨_, _, _, _, h⟩ := h; exact h.one
  all_goals exact h.one
theorem LR1.avone {c : AV} {u : Value} (h : LR1 w F env rt c u) : c.one = true := by
  cases c <;> simp only [LR1] at h
  case ref p => rfl
  case sl p es off len => rfl
  case sa p es len cap => rfl
  all_goals exact h.avone
theorem LR.one {c : AV} {u : Value} (h : LR w F env rt c u) : u.oneCell' = true := by
  cases c <;> simp only [LR] at h
  case fn f caps => obtain ⟨_, rfl, _⟩ := h; rfl
  all_goals exact h.one
theorem LR.avone {c : AV} {u : Value} (h : LR w F env rt c u) : c.one = true := by
  cases c <;> simp only [LR] at h
  case fn f caps => rfl
  all_goals exact h.avone
theorem SV1_one {x : AV} {u : Value} (h : x.one = true) : SV1 w F env rt x u ↔ LR w F env rt x u := by cases x <;> simp_all [SV1, AV.one]
theorem SV_one {x : AV} {u : Value} (h : x.one = true) : SV w F env rt x u ↔ LR w F env rt x u := by cases x <;> simp_all [SV, SV1, AV.one]
theorem LR.of_rep {c : AV} {u : Value} (h : Rep w F c u E0) : LR w F env rt c u := by
  cases c <;> simp only [LR]
  case fn f caps =>
    cases h with
    | fn hl hr hT =>
      refine ⟨_, rfl, hl, fun i c v hc hv => ?_⟩
      have := hr i c v hc hv
      cases c <;> simp only [LR1] <;> first | exact this | (cases this)
  all_goals
    simp only [LR1]
    first | exact h | (cases h)
end
/-! What a change of one root leaves of a slot's value. -/
def surv1 (r d lo hi : Nat) : AV → Bool
  | .ref p => p.r != r || decide (p.path.length ≤ d)
  | .sa p _ _ _ => p.r != r || decide (p.path.length ≤ d)
  | .sl p _ _ _ => p.r != r || decide (p.path.length < d) || (p.path.length == d && (decide (p.j < lo) || decide (hi ≤ p.j)))
  | _ => true
def notR (r : Nat) : AV → Bool
  | .ref p => p.r != r
  | .sa p _ _ _ => p.r != r
  | .sl p _ _ _ => p.r != r
  | _ => true
/-- From one state to another one, some references live on. -/
structure Lives (w : World) (F : Fp) (env : Nat → RLoc) (rt : Al) (w' : World) (F' : Fp) (env' : Nat → RLoc) (rt' : Al) (ok : AV → Bool) : Prop where
  rep : ∀ c u, Rep w F c u E0 → Rep w' F' c u E0
  ref : ∀ p u, ok (.ref p) = true → LR1 w F env rt (.ref p) u → LR1 w' F' env' rt' (.ref p) u
  sl : ∀ p es off len u, ok (.sl p es off len) = true → LR1 w F env rt (.sl p es off len) u → LR1 w' F' env' rt' (.sl p es off len) u
  sa : ∀ p es len cap u, ok (.sa p es len cap) = true → LR1 w F env rt (.sa p es len cap) u → LR1 w' F' env' rt' (.sa p es len cap) u
def okF (ok : AV → Bool) : AV → Bool
  | .fn _ caps => caps.all ok
  | c => ok c
def cut1 (ok : AV → Bool) (c : AV) : AV := if okF ok c then c else .junk
def cut2 (ok : AV → Bool) : AV → AV
  | .agg cs => .agg (cs.map (cut1 ok))
  | c => cut1 ok c
def cutV (ok : AV → Bool) : AV → AV
  | .tup xs => .tup (xs.map (cut2 ok))
  | c => cut2 ok c
def isR : AV → Bool
  | .ref _ => true
  | .sl _ _ _ _ => true
  | .sa _ _ _ _ => true
  | _ => false
section
variable {w : World} {F : Fp} {env : Nat → RLoc} {rt : Al} {w' : World} {F' : Fp} {env' : Nat → RLoc} {rt' : Al} {ok : AV → Bool}
theorem Lives.lr1 (h : Lives w F env rt w' F' env' rt' ok) {c : AV} {u : Value} (hk : ok c = true) (hr : LR1 w F env rt c u) : LR1 w' F' env' rt' c u := by
  cases c
  case ref p => exact h.ref _ _ hk hr
  case sl p es off len => exact h.sl _ _ _ _ _ hk hr
  case sa p es len cap => exact h.sa _ _ _ _ _ hk hr
  all_goals exact h.rep _ _ hr
theorem Lives.lr (h : Lives w F env rt w' F' env' rt' ok) {c : AV} {u : Value} (hk : okF ok c = true) (hr : LR w F env rt c u) : LR w' F' env' rt' c u := by
  cases c <;> simp only [LR] at hr ⊢
  case fn f caps =>
    obtain ⟨us, h1, h2, h3⟩ := hr
    refine ⟨us, h1, h2, fun i c v hc hv => h.lr1 ?_ (h3 i c v hc hv)⟩
    simp only [okF, List.all_eq_true] at hk
    exact hk c (List.mem_of_getElem? hc)
  all_goals exact h.lr1 hk hr
theorem junk_lr {u : Value} (h : u.oneCell' = true) : LR w F env rt .junk u := Rep.junk h fun _ _ h => h
theorem Lives.cut1 (h : Lives w F env rt w' F' env' rt' ok) {c : AV} {u : Value} (hr : LR w F env rt c u) : LR w' F' env' rt' (Ow.cut1 ok c) u := by
  unfold Ow.cut1
  split
  · rename_i hk; exact h.lr hk hr
  · exact junk_lr hr.one
theorem cut1_one (c : AV) : c.one = true → (Ow.cut1 ok c).one = true := by
  intro h; unfold Ow.cut1; split
  · exact h
  · rfl
theorem Lives.cut2 (h : Lives w F env rt w' F' env' rt' ok) {c : AV} {u : Value} (hr : SV1 w F env rt c u) : SV1 w' F' env' rt' (Ow.cut2 ok c) u := by
  by_cases hc : ∃ cs, c = .agg cs
  · obtain ⟨cs, rfl⟩ := hc
    simp only [Ow.cut2, SV1] at hr ⊢
    obtain ⟨us, h1, h2, h3⟩ := hr
    refine ⟨us, h1, by simp [h2], fun i c v hc hv => ?_⟩
    rw [List.getElem?_map, Option.map_eq_some_iff] at hc
    obtain ⟨c0, hc0, rfl⟩ := hc
    exact h.cut1 (h3 i c0 v hc0 hv)
  · have hone : c.one = true := by
      cases c <;> simp_all [SV1, AV.one]
    have e : Ow.cut2 ok c = Ow.cut1 ok c := by cases c <;> first | rfl | simp_all
    rw [e, SV1_one (cut1_one c hone)]
    exact h.cut1 ((SV1_one hone).1 hr)
theorem Lives.cutV (h : Lives w F env rt w' F' env' rt' ok) {c : AV} {u : Value} (hr : SV w F env rt c u) : SV w' F' env' rt' (Ow.cutV ok c) u := by
  by_cases hc : ∃ cs, c = .tup cs
  · obtain ⟨cs, rfl⟩ := hc
    simp only [Ow.cutV, SV] at hr ⊢
    obtain ⟨us, h1, h2, h3⟩ := hr
    refine ⟨us, h1, by simp [h2], fun i c v hc hv => ?_⟩
    rw [List.getElem?_map, Option.map_eq_some_iff] at hc
    obtain ⟨c0, hc0, rfl⟩ := hc
    exact h.cut2 (h3 i c0 v hc0 hv)
  · have e : Ow.cutV ok c = Ow.cut2 ok c := by cases c <;> first | rfl | simp_all
    have hs : SV1 w F env rt c u := by cases c <;> first | exact hr | simp_all
    have := h.cut2 hs
    rw [e]
    have hnt : ∀ xs, Ow.cut2 ok c ≠ .tup xs := by
      intro xs he
      cases c <;> simp only [Ow.cut2] at he
      case agg => cases he
      all_goals
        unfold Ow.cut1 at he
        split at he <;> simp_all
    generalize Ow.cut2 ok c = y at this hnt
    cases y <;> first | exact this | simp_all
theorem Lives.trans {w2 : World} {F2 : Fp} {env2 : Nat → RLoc} {rt2 : Al} {ok2 : AV → Bool} (h : Lives w F env rt w' F' env' rt' ok) (k : Lives w' F' env' rt' w2 F2 env2 rt2 ok2) : Lives w F env rt w2 F2 env2 rt2 (fun c => ok c && ok2 c) :=
  ⟨fun c u hr => k.rep _ _ (h.rep _ _ hr), fun p u ho hr => by rw [Bool.and_eq_true] at ho; exact k.ref _ _ ho.2 (h.ref _ _ ho.1 hr), fun p es off len u ho hr => by rw [Bool.and_eq_true] at ho; exact k.sl _ _ _ _ _ ho.2 (h.sl _ _ _ _ _ ho.1 hr), fun p es len cap u ho hr => by rw [Bool.and_eq_true] at ho; exact k.sa _ _ _ _ _ ho.2 (h.sa _ _ _ _ _ ho.1 hr)⟩
end
/-! The state. -/
/-- Roots that a caller lent. -/
def pin (r : Nat) : Bool := decide (r < 1000) || decide (9000 ≤ r)
def VB : Nat := 2000
/-- X: what is owned and lies in no root. -/
structure Rel (w : World) (F X : Fp) (env : Nat → RLoc) (n : Nat) (a : Act) (st : St) : Prop where
  ok : ∃ T, Ok w F env T st.rt ∧ ∀ r x b a, st.rt.get r = some x → T r b a → ¬ X b a
  xsub : ∀ b a, X b a → F b a
  kind : ∀ r x, st.rt.get r = some x → (r < VB → ∃ B o, env r = .mem B o) ∧ (VB ≤ r → ∃ u, env r = .val u)
  sv : ∀ k x, st.sl.get k = some x → SV w F env st.rt x (a.tmps.getD k undef)
  rf : ∀ e ∈ st.rf, ∃ B o u, env e.1 = .mem B o ∧ (∃ x, st.rt.get e.1 = some x ∧ e.2.1 < x.cells.length) ∧ w.cell? ⟨B, o + e.2.1, none⟩ = some u ∧ LR w F env st.rt e.2.2 u
  size : a.tmps.size = n
  defers : a.defers = []
structure Tr (w : World) (F : Fp) (env : Nat → RLoc) (w' : World) (F' : Fp) (env' : Nat → RLoc) : Prop where
  kp : Kp w F w' F' E0
  env : ∀ r, pin r = true → env' r = env r
theorem Tr.refl (w : World) (F : Fp) (env : Nat → RLoc) : Tr w F env w F env := ⟨Kp.refl _ _ _, fun _ _ => rfl⟩
theorem Tr.trans {w w1 w2 : World} {F F1 F2 : Fp} {e e1 e2 : Nat → RLoc} (h : Tr w F e w1 F1 e1) (k : Tr w1 F1 e1 w2 F2 e2) : Tr w F e w2 F2 e2 := ⟨h.kp.trans k.kp, fun r hr => (k.env r hr).trans (h.env r hr)⟩
abbrev Post := St → Prop
def Good (n : Nat) (w : World) (F : Fp) (env : Nat → RLoc) (K : Post) (a' : Act) (w' : World) : Prop :=
  ∃ F' env' st', K st' ∧ Rel w' F' E0 env' n a' st' ∧ Tr w F env w' F' env'
theorem Good.here {n : Nat} {w : World} {F : Fp} {env : Nat → RLoc} {K : Post} {a : Act} {st : St} (h : Rel w F E0 env n a st) (hk : K st) : Good n w F env K a w := ⟨F, env, st, hk, h, Tr.refl _ _ _⟩
theorem Good.trans {n : Nat} {w w1 : World} {F F1 : Fp} {env env1 : Nat → RLoc} {K : Post} {a' : Act} {w' : World} (ht : Tr w F env w1 F1 env1) (h : Good n w1 F1 env1 K a' w') : Good n w F env K a' w' := by
  obtain ⟨F', env', st', h1, h2, h3⟩ := h
  exact ⟨F', env', st', h1, h2, ht.trans h3⟩
theorem Good.mono {n : Nat} {w : World} {F : Fp} {env : Nat → RLoc} {K K' : Post} {a' : Act} {w' : World} (hk : ∀ st, K st → K' st) (h : Good n w F env K a' w') : Good n w F env K' a' w' := by
  obtain ⟨F', env', st', h1, h2, h3⟩ := h
  exact ⟨F', env', st', hk _ h1, h2, h3⟩
theorem getD_put (a : Act) (d k : Nat) (v : Value) (h : d < a.tmps.size) : (a.put (some d) v).tmps.getD k undef = if k = d then v else a.tmps.getD k undef := by
  simp only [Act.put, Array.getD_eq_getD_getElem?, Array.getElem?_setIfInBounds]
  by_cases hk : k = d
  · subst hk; simp [h]
  · simp [hk, Ne.symm hk]
def St.set (st : St) (d : Nat) (x : AV) : St := { st with sl := st.sl.set d x }
def St.del (st : St) (d : Nat) : St := { st with sl := st.sl.del d }
def St.unset (st : St) : Option Nat → St
  | some d => st.set d (.tup [])
  | none => st
section
variable {w : World} {F X : Fp} {env : Nat → RLoc} {n : Nat} {a : Act} {st : St}
/-- A slot is set. -/
theorem Rel.set (h : Rel w F X env n a st) {d : Nat} (hd : d < n) {x : AV} {v : Value} (hv : SV w F env st.rt x v) : Rel w F X env n (a.put (some d) v) (st.set d x) := by
  refine ⟨h.ok, h.xsub, h.kind, ?_, h.rf, by simp [Act.put, h.size], h.defers⟩
  intro k y hy
  rw [getD_put _ _ _ _ (by rw [h.size]; exact hd)]
  simp only [St.set, Al.get_set] at hy
  by_cases hk : k = d
  · subst hk; simp only [if_true] at hy ⊢; obtain rfl := Option.some.inj hy; exact hv
  · simp only [hk, if_false] at hy ⊢; exact h.sv k y hy
theorem Rel.del (h : Rel w F X env n a st) (d : Nat) : Rel w F X env n a (st.del d) := by
  refine ⟨h.ok, h.xsub, h.kind, ?_, h.rf, h.size, h.defers⟩
  intro k y hy
  simp only [St.del, Al.get_del] at hy
  split at hy
  · simp at hy
  · exact h.sv k y hy
theorem Rel.unset (h : Rel w F X env n a st) (dst : Option Tmp) (hd : ∀ d, dst = some d → d < n) : Rel w F X env n (a.put dst undef) (st.unset dst) := by
  cases dst with
  | none => exact h
  | some d => exact h.set (hd d rfl) ⟨#[], rfl, rfl, fun i c v hc => by simp at hc⟩
/-- A guard's slot: what it says, or that it was itself left out. -/
def gb (want : Bool) : Option AV → Option Bool
  | some (.v (.bool b)) => some b
  | some (.tup []) => some (!want)
  | _ => none
inductive Opd where
  | s (k : Nat)
  | c (v : Value)
  | g (f : FuncId)
def Opd.to : Opd → Operand
  | .s k => .tmp k
  | .c v => .const v
  | .g f => .func f
def opd : Operand → Option Opd
  | .tmp t => some (.s t)
  | .const v => some (.c v)
  | .func f => some (.g f)
  | .global _ => none
theorem opd_to {x : Operand} {o : Opd} (h : opd x = some o) : o.to = x := by
  cases x <;> simp [opd] at h <;> subst h <;> rfl
def St.ev (st : St) : Opd → Option AV
  | .s k => st.sl.get k
  | .c v => if v.oneCell' then some (.v v) else none
  | .g f => some (.fn f [])
theorem Rel.ev (h : Rel w F X env n a st) {o : Opd} {x : AV} (hx : st.ev o = some x) : SV w F env st.rt x (a.eval o.to) := by
  cases o with
  | s k => exact h.sv k x hx
  | c v =>
    simp only [St.ev] at hx
    split at hx
    · rename_i hv
      obtain rfl := Option.some.inj hx
      exact Rep.v hv fun _ _ h => h
    · simp at hx
  | g f =>
    simp only [St.ev, Option.some.injEq] at hx
    subst hx
    exact ⟨#[], rfl, rfl, fun i c v hc => by simp at hc⟩
end
end Go.Proofs.YthlehngbadianaaDoor.Ow
