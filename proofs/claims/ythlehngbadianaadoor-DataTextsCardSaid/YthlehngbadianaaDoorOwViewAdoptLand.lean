/- What a call sees of what is not lent to it. -/
import Derived.Test.YthlehngbadianaaDoorOwCallRet
set_option linter.unusedVariables false
set_option linter.unusedSimpArgs false
set_option linter.unnecessarySimpa false
namespace Go.Proofs.YthlehngbadianaaDoor.Ow
open Go Go.RowKit
def vwSl (es off len : Nat) : Option AV → AV
  | some (.own es' xs) => if es' = es ∧ off + len ≤ xs.length then .lst es (((xs.drop off).take len).map frz) else .junk
  | _ => .junk
def vwRef (j : Nat) : Option AV → AV
  | some z => .fptr (frz z) j
  | none => .junk
/-- A leaf, for a call; the root g is lent to it. -/
def vw1 (g : Option Nat) (st : St) : AV → AV
  | .sl p es off len => if g = some p.r then .junk else vwSl es off len (cellAt st.rt p.r p.path p.j)
  | .ref p => if g = some p.r then .junk else vwRef p.j (st.node p)
  | .sa _ _ _ _ => .junk
  | c => c
def vwc (g : Option Nat) (st : St) : AV → AV
  | .fn f caps => .fn f (caps.map (vw1 g st))
  | c => vw1 g st c
def vw (g : Option Nat) (st : St) : AV → AV
  | .agg cs => .agg (cs.map (vwc g st))
  | c => vwc g st c
section
variable {w : World} {F X : Fp} {env : Nat → RLoc} {n : Nat} {a : Act} {st : St}
theorem Nd.fptr {w : World} {F F' : Fp} {z : AV} {B o : Nat} {T : Fp} (h : Nd w F z.cells B o T) (hT : ∀ b a, T b a → ¬ F' b a) (hF : ∀ b a, F' b a → F b a) (j : Nat) : Rep w F' (.fptr (frz z) j) (.pointer (some ⟨B, o + j, none⟩)) E0 := by
  obtain ⟨u, S, k1, k2, k3, k4, k5, k6, k7⟩ := h
  have hc : ∀ (i : Nat) c, (frz z).cells[i]? = some c → ∃ c0, z.cells[i]? = some c0 ∧ c = frz c0 := by
    intro i c hc
    rw [frz_cells, List.getElem?_map, Option.map_eq_some_iff] at hc
    obtain ⟨c0, h1, h2⟩ := hc
    exact ⟨c0, h1, h2.symm⟩
  refine .fptr u ?_ ?_ ?_ (fun _ _ h => h)
  · intro i c h1
    obtain ⟨c0, h2, rfl⟩ := hc i c h1
    exact k2 i c0 h2
  · intro i hi
    rw [frz_cells, List.length_map] at hi
    exact hT _ _ ((k7 _ _).2 (.inl ⟨rfl, by omega, by omega⟩))
  · intro i c h1
    obtain ⟨c0, h2, rfl⟩ := hc i c h1
    exact (k3 i c0 h2).frz (fun b a hs => hT _ _ ((k7 _ _).2 (.inr ⟨i, hs⟩))) hF
/-- What the call's own cells must be kept off. -/
structure Off (w : World) (F : Fp) (env : Nat → RLoc) (T : Nat → Fp) (rt : Al) (g : Option Nat) (F' : Fp) : Prop where
  sub : ∀ b a, F' b a → F b a
  dis : ∀ r x, g ≠ some r → rt.get r = some x → ∀ b a, T r b a → ¬ F' b a
theorem vw1_sound {T : Nat → Fp} (ok : Ok w F env T st.rt) {g : Option Nat} {F' : Fp} (ho : Off w F env T st.rt g F') {x : AV} {u : Value} (hv : LR1 w F env st.rt x u) {env' : Nat → RLoc} {M : Al} : LR1 w F' env' M (vw1 g st x) u := by
  have hk : Kp w F w F' E0 := ⟨⟨E0, Agree.refl _ _, fun _ _ h => h.elim, fun _ _ _ h => h⟩, fun b a hh => .inl (ho.sub b a hh)⟩
  cases x
  case sl p es off len =>
    simp only [vw1]
    split
    · exact Rep.junk hv.one fun _ _ h => h
    · rename_i hg
      obtain ⟨l, uc, xs, h1, h2, h3, h4, h5⟩ := hv
      simp only [h2, vwSl, true_and, h4, if_true]
      cases hx : st.rt.get p.r with
      | none => simp [cellAt, hx] at h2
      | some x =>
        have h2' : x.cellIn p.path p.j = some (.own es xs) := by simpa only [cellAt, hx, Option.bind_some] using h2
        obtain ⟨l', u', S, k1, k2, k3, k4, k5⟩ := (ok.root _ x hx).at_ (rt := st.rt) hx h2'
        rw [h1] at k1
        obtain rfl := Option.some.inj k1
        rw [h3] at k2
        obtain rfl := Option.some.inj k2
        exact frz_sub k3 h5 h4 (fun b a hs => ho.dis _ x hg hx _ _ (k4 _ _ hs)) ho.sub
  case ref p =>
    simp only [vw1]
    split
    · exact Rep.junk hv.one fun _ _ h => h
    · rename_i hg
      obtain ⟨B, o, h1, rfl⟩ := hv
      cases hx : st.rt.get p.r with
      | none => simp [rloc, hx] at h1
      | some x =>
        simp only [St.node, hx, Option.bind_some]
        cases hz : x.sub p.path with
        | none => exact Rep.junk rfl fun _ _ h => h
        | some z =>
          have hm : p.path = [] → ∃ B o, env p.r = .mem B o := by
            intro hp
            rw [hp] at h1
            simp only [rloc, hx, Option.bind_some] at h1
            cases he : env p.r with
            | mem B o => exact ⟨B, o, rfl⟩
            | val u => rw [he] at h1; simp at h1
          obtain ⟨B', o', Tz, k1, k2, k3, _⟩ := root_lens ok hx hz hm
          rw [h1] at k1
          simp only [Option.some.injEq, RLoc.mem.injEq] at k1
          obtain ⟨rfl, rfl⟩ := k1
          exact k2.fptr (fun b a ht => ho.dis _ x hg hx _ _ (k3 _ _ ht)) ho.sub _
  case sa => exact Rep.junk hv.one fun _ _ h => h
  all_goals exact Rep.keep hv hk
theorem vwc_sound {T : Nat → Fp} (ok : Ok w F env T st.rt) {g : Option Nat} {F' : Fp} (ho : Off w F env T st.rt g F') {x : AV} {u : Value} (hv : LR w F env st.rt x u) {env' : Nat → RLoc} {M : Al} : LR w F' env' M (vwc g st x) u := by
  have hone : ∀ x u, LR1 w F env st.rt x u → (∀ f caps, x ≠ .fn f caps) → LR w F' env' M (vw1 g st x) u := by
    intro x u hv hx
    have h1 := vw1_sound ok ho hv (env' := env') (M := M)
    have : ∀ f caps, vw1 g st x ≠ .fn f caps := by
      intro f caps e
      cases x <;> simp only [vw1] at e
      case sl => split at e <;> try simp at e
                 unfold vwSl at e
                 split at e <;> try simp at e
                 split at e <;> simp at e
      case ref => split at e <;> try simp at e
                  unfold vwRef at e
                  split at e <;> simp at e
      all_goals first | (cases e; done) | exact hx _ _ rfl
    generalize vw1 g st x = y at h1 this
    cases y <;> first | exact h1 | exact absurd rfl (this _ _)
  by_cases hx : ∃ f caps, x = .fn f caps
  · obtain ⟨f, caps, rfl⟩ := hx
    obtain ⟨us, h1, h2, h3⟩ := hv
    refine ⟨us, h1, by simp [h2], ?_⟩
    intro i c v hc hv
    rw [List.getElem?_map, Option.map_eq_some_iff] at hc
    obtain ⟨c0, hc0, rfl⟩ := hc
    exact vw1_sound ok ho (h3 i c0 v hc0 hv)
  · have h1 : LR1 w F env st.rt x u := by cases x <;> first | exact hv | exact absurd ⟨_, _, rfl⟩ hx
    have e : vwc g st x = vw1 g st x := by cases x <;> first | rfl | exact absurd ⟨_, _, rfl⟩ hx
    rw [e]
    exact hone x u h1 fun f caps e => hx ⟨f, caps, e⟩
theorem LR.sv {rt : Al} {x : AV} {u : Value} (h : LR w F env rt x u) : SV1 w F env rt x u := (SV1_one h.avone).2 h
theorem vw_sound {T : Nat → Fp} (ok : Ok w F env T st.rt) {g : Option Nat} {F' : Fp} (ho : Off w F env T st.rt g F') {x : AV} {u : Value} (hv : SV1 w F env st.rt x u) {env' : Nat → RLoc} {M : Al} : SV1 w F' env' M (vw g st x) u := by
  by_cases hc : ∃ cs, x = .agg cs
  · obtain ⟨cs, rfl⟩ := hc
    obtain ⟨us, h1, h2, h3⟩ := hv
    refine ⟨us, h1, by simp [h2], ?_⟩
    intro i c v hc hv
    rw [List.getElem?_map, Option.map_eq_some_iff] at hc
    obtain ⟨c0, hc0, rfl⟩ := hc
    exact vwc_sound ok ho (h3 i c0 v hc0 hv)
  · have hone : x.one = true := by cases x <;> simp_all [SV1, AV.one]
    have e : vw g st x = vwc g st x := by cases x <;> first | rfl | simp_all
    rw [e]
    exact (vwc_sound ok ho ((SV1_one hone).1 hv)).sv
end
end Go.Proofs.YthlehngbadianaaDoor.Ow
namespace Go.Proofs.YthlehngbadianaaDoor.Ow
open Go Go.RowKit
def objs : List AV → Nat
  | [] => 0
  | .obj _ :: l => objs l + 1
  | _ :: l => objs l
def adoptL (d : Nat) : Nat → List AV → St → St
  | _, [], st => st
  | i, .own es xs :: l, st => adoptL d (i + 1) l (st.new ((2 + i) * 1000 + d) (.own es xs))
  | i, .obj x :: l, st => adoptL d (i + 1) l (st.new (1000 + d) x)
  | i, _ :: l, st => adoptL d (i + 1) l st
/-- What the slot then holds. -/
def adV (d i : Nat) : AV → AV
  | .own es xs => .sl ⟨(2 + i) * 1000 + d, [], 0⟩ es 0 xs.length
  | .obj _ => .ref ⟨1000 + d, [], 0⟩
  | .ext _ => .junk
  | y => y
def adVs (d : Nat) : Nat → List AV → List AV
  | _, [] => []
  | i, y :: l => adV d i y :: adVs d (i + 1) l
section
variable {w : World} {F X : Fp} {env : Nat → RLoc} {n : Nat} {a : Act} {st : St}
/-- A root comes, and the one that was there before goes. -/
theorem Rel.newOwn (h : Rel w F X env n a st) {r : Nat} {x : AV} {l : RLoc} {S : Fp} (hx : RootOk w F x l S) (hS : ∀ b a, S b a → X b a) (hl : (r < VB → ∃ B o, l = .mem B o) ∧ (VB ≤ r → ∃ u, l = .val u)) :
    ∃ X', Rel w F X' (fun r' => if r' = r then l else env r') n a (st.new r x) ∧ ∀ b a, X b a → ¬ S b a → X' b a := by
  obtain ⟨Tr, k1, k2, k3⟩ := h.drop r
  refine ⟨fun b a => (X b a ∨ Tr b a) ∧ ¬ S b a, ?_, fun b a h1 h2 => ⟨.inl h1, h2⟩⟩
  exact k3.come (by simp [St.drop, Al.get_del]) hx (fun b a hh => .inl (hS b a hh)) (fun b a hh => hh) hl
theorem adoptL_sound {d : Nat} (hd : d < 1000) : ∀ (ys : List AV) (i : Nat) {X : Fp} {env : Nat → RLoc} {st : St} (h : Rel w F X env n a st) (S : Nat → Fp) (vs : Nat → Value),
    (∀ k y, ys[k]? = some y → owned y = true → Rep w F y (vs k) (S k)) → (∀ k k' b a, S k b a → S k' b a → k = k') → (∀ k b a, S k b a → X b a) → i + ys.length ≤ 7 → objs ys ≤ 1 →
    ∃ X' env', Rel w F X' env' n a (adoptL d i ys st) ∧ (∀ r, pin r = true → env' r = env r) ∧
      (∀ r, (r = 1000 + d → objs ys = 0) → (∀ k, k < ys.length → r ≠ (2 + (i + k)) * 1000 + d) → env' r = env r ∧ (adoptL d i ys st).rt.get r = st.rt.get r) ∧
      ∀ k y, ys[k]? = some y → (∀ es xs, y = .own es xs → env' ((2 + (i + k)) * 1000 + d) = .val (vs k) ∧ (adoptL d i ys st).rt.get ((2 + (i + k)) * 1000 + d) = some y) ∧ (∀ x, y = .obj x → ∃ B o, vs k = ptrTo B o ∧ env' (1000 + d) = .mem B o ∧ (adoptL d i ys st).rt.get (1000 + d) = some x)
  | [], i, X, env, st, h, S, vs, h1, h2, h3, h4, h5 => ⟨X, env, h, fun _ _ => rfl, fun _ _ _ => ⟨rfl, rfl⟩, by simp⟩
  | y :: ys, i, X, env, st, h, S, vs, h1, h2, h3, h4, h5 => by
    simp only [List.length_cons] at h4
    by_cases hown : ∃ es xs, y = .own es xs
    · obtain ⟨es, xs, rfl⟩ := hown
      have hr0 := h1 0 _ rfl rfl
      simp only [objs] at h5
      obtain ⟨X1, g1, g2⟩ := h.newOwn (r := (2 + i) * 1000 + d) (l := .val (vs 0)) (x := .own es xs) ⟨rfl, hr0⟩ (h3 0) ⟨fun hh => by simp only [VB] at hh; omega, fun _ => ⟨_, rfl⟩⟩
      obtain ⟨X', env', k1, k2, k3, k4⟩ := adoptL_sound hd ys (i + 1) g1 (fun k => S (k + 1)) (fun k => vs (k + 1)) (fun k y hy ho => h1 (k + 1) y hy ho) (fun k k' b a hk hk' => Nat.succ.inj (h2 (k + 1) (k' + 1) b a hk hk'))
        (fun k b a hk => g2 b a (h3 _ b a hk) fun hh => Nat.succ_ne_zero k (h2 (k + 1) 0 b a hk hh)) (by omega) h5
      have hrid : env' ((2 + i) * 1000 + d) = .val (vs 0) ∧ (adoptL d (i + 1) ys (st.new ((2 + i) * 1000 + d) (.own es xs))).rt.get ((2 + i) * 1000 + d) = some (.own es xs) := by
        obtain ⟨m1, m2⟩ := k3 ((2 + i) * 1000 + d) (by omega) (fun k hk => by omega)
        refine ⟨by rw [m1]; simp, by rw [m2]; simp [St.new, Al.get_set]⟩
      refine ⟨X', env', k1, ?_, ?_, ?_⟩
      · intro r hr
        rw [k2 r hr]
        have : r ≠ (2 + i) * 1000 + d := by
          rintro rfl
          simp only [pin, Bool.or_eq_true, decide_eq_true_eq] at hr
          omega
        simp only [this, if_false]
      · intro r hr1 hr2
        obtain ⟨m1, m2⟩ := k3 r hr1 (fun k hk => by rw [show i + 1 + k = i + (k + 1) by omega]; exact hr2 (k + 1) (Nat.succ_lt_succ hk))
        have hne : r ≠ (2 + i) * 1000 + d := by have := hr2 0 (by simp); simpa using this
        refine ⟨by rw [m1]; simp only [hne, if_false], ?_⟩
        show (adoptL d (i + 1) ys (st.new ((2 + i) * 1000 + d) (.own es xs))).rt.get r = _
        rw [m2]; simp [St.new, St.drop, Al.get_set, Al.get_del, hne]
      · intro k y hy
        cases k with
        | zero =>
          simp only [List.getElem?_cons_zero, Option.some.injEq] at hy
          subst hy
          refine ⟨fun es' xs' _ => hrid, fun x e => by cases e⟩
        | succ k =>
          simp only [List.getElem?_cons_succ] at hy
          have := k4 k y hy
          rw [show i + 1 + k = i + (k + 1) by omega] at this
          exact this
    · by_cases hobj : ∃ x, y = .obj x
      · obtain ⟨x, rfl⟩ := hobj
        have hr0 := h1 0 _ rfl rfl
        have h50 : objs ys = 0 := by simp only [objs] at h5; omega
        obtain ⟨B, o, hv⟩ : ∃ B o, vs 0 = ptrTo B o := by generalize vs 0 = v at hr0; cases hr0; exact ⟨_, _, rfl⟩
        rw [hv] at hr0
        obtain ⟨X1, g1, g2⟩ := h.newOwn (r := 1000 + d) (l := .mem B o) (x := x) (S := S 0) (rep_obj.1 hr0) (h3 0) ⟨fun _ => ⟨_, _, rfl⟩, fun hh => by simp only [VB] at hh; omega⟩
        obtain ⟨X', env', k1, k2, k3, k4⟩ := adoptL_sound hd ys (i + 1) g1 (fun k => S (k + 1)) (fun k => vs (k + 1)) (fun k y hy ho => h1 (k + 1) y hy ho) (fun k k' b a hk hk' => Nat.succ.inj (h2 (k + 1) (k' + 1) b a hk hk'))
          (fun k b a hk => g2 b a (h3 _ b a hk) fun hh => Nat.succ_ne_zero k (h2 (k + 1) 0 b a hk hh)) (by omega) (by omega)
        have hrid : env' (1000 + d) = .mem B o ∧ (adoptL d (i + 1) ys (st.new (1000 + d) x)).rt.get (1000 + d) = some x := by
          obtain ⟨m1, m2⟩ := k3 (1000 + d) (fun _ => h50) (fun k hk => by omega)
          refine ⟨by rw [m1]; simp, by rw [m2]; simp [St.new, Al.get_set]⟩
        refine ⟨X', env', k1, ?_, ?_, ?_⟩
        · intro r hr
          rw [k2 r hr]
          have : r ≠ 1000 + d := by
            rintro rfl
            simp only [pin, Bool.or_eq_true, decide_eq_true_eq] at hr
            omega
          simp only [this, if_false]
        · intro r hr1 hr2
          have hne : r ≠ 1000 + d := by
            intro e
            have := hr1 e
            simp [objs] at this
          obtain ⟨m1, m2⟩ := k3 r (fun e => absurd e hne) (fun k hk => by rw [show i + 1 + k = i + (k + 1) by omega]; exact hr2 (k + 1) (Nat.succ_lt_succ hk))
          refine ⟨by rw [m1]; simp only [hne, if_false], ?_⟩
          show (adoptL d (i + 1) ys (st.new (1000 + d) x)).rt.get r = _
          rw [m2]; simp [St.new, St.drop, Al.get_set, Al.get_del, hne]
        · intro k y hy
          cases k with
          | zero =>
            simp only [List.getElem?_cons_zero, Option.some.injEq] at hy
            subst hy
            refine ⟨fun es' xs' e => (by cases e), fun x' e => ?_⟩
            obtain rfl := AV.obj.inj e
            exact ⟨B, o, hv, hrid.1, hrid.2⟩
          | succ k =>
            simp only [List.getElem?_cons_succ] at hy
            have := k4 k y hy
            rw [show i + 1 + k = i + (k + 1) by omega] at this
            exact this
      · have e1 : objs (y :: ys) = objs ys := by cases y <;> first | rfl | exact absurd ⟨_, rfl⟩ hobj
        have e2 : adoptL d i (y :: ys) st = adoptL d (i + 1) ys st := by cases y <;> first | rfl | exact absurd ⟨_, rfl⟩ hobj | exact absurd ⟨_, _, rfl⟩ hown
        rw [e1] at h5
        obtain ⟨X', env', k1, k2, k3, k4⟩ := adoptL_sound hd ys (i + 1) h (fun k => S (k + 1)) (fun k => vs (k + 1)) (fun k y hy ho => h1 (k + 1) y hy ho) (fun k k' b a hk hk' => Nat.succ.inj (h2 (k + 1) (k' + 1) b a hk hk'))
          (fun k b a hk => h3 _ b a hk) (by omega) h5
        rw [e2, e1]
        refine ⟨X', env', k1, k2, ?_, ?_⟩
        · intro r hr1 hr2
          exact k3 r hr1 (fun k hk => by rw [show i + 1 + k = i + (k + 1) by omega]; exact hr2 (k + 1) (Nat.succ_lt_succ hk))
        · intro k y' hy
          cases k with
          | zero =>
            simp only [List.getElem?_cons_zero, Option.some.injEq] at hy
            subst hy
            exact ⟨fun es xs e => absurd ⟨_, _, e⟩ hown, fun x e => absurd ⟨_, e⟩ hobj⟩
          | succ k =>
            simp only [List.getElem?_cons_succ] at hy
            have := k4 k y' hy
            rw [show i + 1 + k = i + (k + 1) by omega] at this
            exact this
/-- A part that refers to nothing. -/
def noR1 : AV → Bool
  | .ref _ => false
  | .sl _ _ _ _ => false
  | .sa _ _ _ _ => false
  | _ => true
def noRc : AV → Bool
  | .fn _ caps => caps.all noR1
  | c => noR1 c
def noR : AV → Bool
  | .agg cs => cs.all noRc
  | .tup _ => false
  | c => noRc c
theorem noR1_lr {rt rt' : Al} {w' : World} {F' : Fp} {env' : Nat → RLoc} {c : AV} {u : Value} (h : noR1 c = true) (hr : LR1 w F env rt c u) (hk : ∀ c u, Rep w F c u E0 → Rep w' F' c u E0) : LR1 w' F' env' rt' c u := by
  cases c <;> simp only [noR1, Bool.false_eq_true] at h <;> exact hk _ _ hr
theorem noRc_lr {rt rt' : Al} {w' : World} {F' : Fp} {env' : Nat → RLoc} {c : AV} {u : Value} (h : noRc c = true) (hr : LR w F env rt c u) (hk : ∀ c u, Rep w F c u E0 → Rep w' F' c u E0) : LR w' F' env' rt' c u := by
  by_cases hx : ∃ f caps, c = .fn f caps
  · obtain ⟨f, caps, rfl⟩ := hx
    obtain ⟨us, h1, h2, h3⟩ := hr
    exact ⟨us, h1, h2, fun i c v hc hv => noR1_lr (List.all_eq_true.1 h c (List.mem_of_getElem? hc)) (h3 i c v hc hv) hk⟩
  · have h1 : LR1 w F env rt c u := by cases c <;> first | exact hr | exact absurd ⟨_, _, rfl⟩ hx
    have h0 : noR1 c = true := by cases c <;> first | exact h | exact absurd ⟨_, _, rfl⟩ hx
    have := noR1_lr (rt' := rt') (env' := env') h0 h1 hk
    cases c <;> first | exact this | exact absurd ⟨_, _, rfl⟩ hx
theorem noR_sv {rt rt' : Al} {w' : World} {F' : Fp} {env' : Nat → RLoc} {c : AV} {u : Value} (h : noR c = true) (hr : SV1 w F env rt c u) (hk : ∀ c u, Rep w F c u E0 → Rep w' F' c u E0) : SV1 w' F' env' rt' c u := by
  by_cases hx : ∃ cs, c = .agg cs
  · obtain ⟨cs, rfl⟩ := hx
    obtain ⟨us, h1, h2, h3⟩ := hr
    exact ⟨us, h1, h2, fun i c v hc hv => noRc_lr (List.all_eq_true.1 h c (List.mem_of_getElem? hc)) (h3 i c v hc hv) hk⟩
  · have hone : c.one = true := by cases c <;> simp_all [SV1, AV.one]
    have h0 : noRc c = true := by cases c <;> first | exact h | exact absurd ⟨_, rfl⟩ hx | simp [AV.one] at hone
    exact (noRc_lr h0 ((SV1_one hone).1 hr) hk).sv
end
end Go.Proofs.YthlehngbadianaaDoor.Ow
namespace Go.Proofs.YthlehngbadianaaDoor.Ow
open Go Go.RowKit
def landOk (ys : List AV) : Bool := decide (ys.length ≤ 7) && decide (objs ys ≤ 1) && (ys.all (fun y => owned y || noR y) || ys.all (fun y => !owned y))
def landV (d : Nat) : AV → AV
  | .tup ys => .tup (adVs d 0 ys)
  | y => adV d 0 y
def parts : AV → List AV
  | .tup ys => ys
  | y => [y]
def land (dst : Option Nat) (r : AV) (st : St) : Option St :=
  match dst with
  | none => some st
  | some d => if landOk (parts r) = true then some ((adoptL d 0 (parts r) st).set d (landV d r)) else none
section
variable {w : World} {F X : Fp} {env : Nat → RLoc} {n : Nat} {a : Act} {st : St}
theorem Rel.lessX (h : Rel w F X env n a st) {X' : Fp} (hX : ∀ b a, X' b a → X b a) : Rel w F X' env n a st := by
  obtain ⟨T, ok, hT⟩ := h.ok
  exact ⟨⟨T, ok, fun r x b a hx ht hh => hT r x b a hx ht (hX b a hh)⟩, fun b a hh => h.xsub b a (hX b a hh), h.kind, h.sv, h.rf, h.size, h.defers⟩
theorem adVs_get (d : Nat) : ∀ (i : Nat) (ys : List AV) (k : Nat), (adVs d i ys)[k]? = (ys[k]?).map fun y => adV d (i + k) y
  | i, [], k => by simp [adVs]
  | i, y :: ys, k => by
    cases k with
    | zero => simp [adVs]
    | succ k => simp only [adVs, List.getElem?_cons_succ, adVs_get d (i + 1) ys k, show i + 1 + k = i + (k + 1) by omega]
theorem adVs_length (d : Nat) : ∀ (i : Nat) (ys : List AV), (adVs d i ys).length = ys.length
  | _, [] => rfl
  | i, y :: ys => by simp [adVs, adVs_length d (i + 1) ys]
theorem adoptL_none (d : Nat) : ∀ (ys : List AV) (i : Nat) (st : St), ys.all (fun y => !owned y) = true → adoptL d i ys st = st
  | [], _, _, _ => rfl
  | y :: ys, i, st, h => by
    simp only [List.all_cons, Bool.and_eq_true, Bool.not_eq_true'] at h
    have e : adoptL d i (y :: ys) st = adoptL d (i + 1) ys st := by cases y <;> first | rfl | (simp [owned] at h)
    rw [e, adoptL_none d ys (i + 1) st h.2]
theorem landL_sound (h : Rel w F X env n a st) {d : Nat} (hd : d < 1000) (ys : List AV) (S : Nat → Fp) (vs : Nat → Value) (hc : ∀ k y, ys[k]? = some y → Comp w F env st.rt y (vs k) (S k)) (h2 : ∀ k k' b a, S k b a → S k' b a → k = k') (h3 : ∀ k b a, S k b a → X b a) (hl : landOk ys = true) :
    ∃ env', Rel w F E0 env' n a (adoptL d 0 ys st) ∧ Tr w F env w F env' ∧ ∀ k y, ys[k]? = some y → SV1 w F env' (adoptL d 0 ys st).rt (adV d k y) (vs k) := by
  simp only [landOk, Bool.and_eq_true, decide_eq_true_eq, Bool.or_eq_true] at hl
  obtain ⟨⟨l1, l2⟩, l3⟩ := hl
  by_cases hno : ys.all (fun y => !owned y) = true
  · rw [adoptL_none d ys 0 st hno]
    refine ⟨env, h.lessX (fun _ _ h => h.elim), Tr.refl _ _ _, ?_⟩
    intro k y hy
    have ho : owned y = false := by simpa using List.all_eq_true.1 hno y (List.mem_of_getElem? hy)
    have := hc k y hy
    simp only [Comp, ho, Bool.false_eq_true, if_false] at this
    have e : adV d k y = y := by cases y <;> first | rfl | (simp [owned] at ho)
    rw [e]; exact this
  · have l4 := l3.resolve_right hno
    obtain ⟨X', env', k1, k2, k3, k4⟩ := adoptL_sound hd ys 0 h S vs (fun k y hy ho => by have := hc k y hy; simpa only [Comp, ho, if_true] using this) h2 h3 (by omega) l2
    refine ⟨env', k1.lessX (fun _ _ h => h.elim), ⟨Kp.refl _ _ _, k2⟩, ?_⟩
    intro k y hy
    have hcy := hc k y hy
    have hoy := List.all_eq_true.1 l4 y (List.mem_of_getElem? hy)
    obtain ⟨m1, m2⟩ := k4 k y hy
    have oth : owned y = false → adV d k y = y → SV1 w F env' (adoptL d 0 ys st).rt (adV d k y) (vs k) := by
      intro ho e
      simp only [ho, Bool.false_or] at hoy
      simp only [Comp, ho, Bool.false_eq_true, if_false] at hcy
      rw [e]
      exact noR_sv hoy hcy (fun _ _ h => h)
    cases y
    case own es xs =>
      obtain ⟨m3, m4⟩ := m1 es xs rfl
      simp only [Comp, owned, if_true] at hcy
      rw [Nat.zero_add] at m3 m4
      refine ⟨.val (vs k), vs k, xs, by simp only [rloc, m4, m3, Option.bind_some], by simp [cellAt, m4, AV.cellIn, AV.sub, AV.cells], rfl, by omega, ?_⟩
      generalize vs k = v at hcy
      cases hcy with
      | ownN => exact .inl ⟨rfl, rfl, rfl, rfl⟩
      | own u1 S hes hcap hb hlen hc hr hd ho hS hT => exact .inr ⟨_, _, _, _, _, _, rfl, rfl, hcap, by omega, .inr (by omega)⟩
    case obj x =>
      obtain ⟨B, o, e, m3, m4⟩ := m2 x rfl
      refine ⟨B, o, by simp only [rloc, m4, m3, Option.bind_some, ploc, hopLoc, ptrTo, if_true, Option.map_some], by rw [e]; rfl⟩
    case ext I =>
      simp only [Comp, owned, if_true] at hcy
      exact Rep.junk hcy.one fun _ _ h => h
    all_goals exact oth rfl rfl
theorem land_sound (h : Rel w F X env n a st) {dst : Option Nat} (hd : ∀ d, dst = some d → d < n) (hn : n ≤ 1000) {r : AV} {v : Value} (hr : Res w F env st.rt r v X) {st' : St} (hl : land dst r st = some st') :
    ∃ F' env', Rel w F' E0 env' n (a.put dst v) st' ∧ Tr w F env w F' env' := by
  cases dst with
  | none =>
    simp only [land, Option.some.injEq] at hl
    subst hl
    exact ⟨F, env, h.lessX (fun _ _ h => h.elim), Tr.refl _ _ _⟩
  | some d =>
    have hdn := hd d rfl
    simp only [land] at hl
    split at hl
    · rename_i hok
      simp only [Option.some.injEq] at hl
      subst hl
      have key : ∀ ys (S : Nat → Fp) (vs : Nat → Value), parts r = ys → (∀ k y, ys[k]? = some y → Comp w F env st.rt y (vs k) (S k)) → (∀ k k' b a, S k b a → S k' b a → k = k') → (∀ k b a, S k b a → X b a) →
          (∀ env' rt, (∀ k y, ys[k]? = some y → SV1 w F env' rt (adV d k y) (vs k)) → SV w F env' rt (landV d r) v) → ∃ F' env', Rel w F' E0 env' n (a.put (some d) v) ((adoptL d 0 (parts r) st).set d (landV d r)) ∧ Tr w F env w F' env' := by
        intro ys S vs e h1 h2 h3 h4
        rw [e] at hok ⊢
        obtain ⟨env', g1, g2, g3⟩ := landL_sound h (by omega : d < 1000) ys S vs h1 h2 h3 hok
        exact ⟨F, env', g1.set hdn (h4 _ _ g3), g2⟩
      by_cases ht : ∃ ys, r = .tup ys
      · obtain ⟨ys, rfl⟩ := ht
        obtain ⟨us, rfl, hsz, S, h1, h2, h3⟩ := hr
        have hget : ∀ k y, ys[k]? = some y → us[k]? = some (us.getD k undef) := by
          intro k y hy
          have : k < us.size := by rw [hsz]; exact (List.getElem?_eq_some_iff.1 hy).1
          simp [Array.getD, this]
        refine key ys S (fun k => us.getD k undef) rfl (fun k y hy => h1 k y _ hy (hget k y hy)) h2 h3 ?_
        intro env' rt hs
        refine ⟨us, rfl, by rw [adVs_length, hsz], ?_⟩
        intro k c v hc hv
        rw [adVs_get, Option.map_eq_some_iff] at hc
        obtain ⟨y, hy, rfl⟩ := hc
        have := hs k y hy
        rw [hget k y hy] at hv
        obtain rfl := Option.some.inj hv
        rw [Nat.zero_add]; exact this
      · have hr' : ∃ S, Comp w F env st.rt r v S ∧ ∀ b a, S b a → X b a := by cases r <;> first | exact hr | exact absurd ⟨_, rfl⟩ ht
        obtain ⟨S, h1, h2⟩ := hr'
        have hp : parts r = [r] := by cases r <;> first | rfl | exact absurd ⟨_, rfl⟩ ht
        refine key [r] (fun k => if k = 0 then S else E0) (fun _ => v) hp ?_ ?_ ?_ ?_
        · intro k y hy
          cases k with
          | zero => simp only [List.getElem?_cons_zero, Option.some.injEq] at hy; subst hy; simpa using h1
          | succ k => simp at hy
        · intro k k' b a hk hk'
          by_cases e : k = 0
          · by_cases e' : k' = 0
            · omega
            · simp only [e', if_false] at hk'; exact hk'.elim
          · simp only [e, if_false] at hk; exact hk.elim
        · intro k b a hk
          by_cases e : k = 0
          · simp only [e, if_true] at hk; exact h2 b a hk
          · simp only [e, if_false] at hk; exact hk.elim
        · intro env' rt hs
          have := hs 0 r rfl
          have e : landV d r = adV d 0 r := by cases r <;> first | rfl | exact absurd ⟨_, rfl⟩ ht
          rw [e]
          generalize adV d 0 r = y at this
          cases y <;> first | exact this | exact this.elim
    · simp at hl
end
end Go.Proofs.YthlehngbadianaaDoor.Ow
