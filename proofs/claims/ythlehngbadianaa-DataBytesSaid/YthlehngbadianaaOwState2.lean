/- What slots hold; the state of a running call; how it goes on. -/
import Derived.Test.YthlehngbadianaaOwState
set_option linter.unusedVariables false
set_option linter.unusedSimpArgs false
set_option linter.unnecessarySimpa false
namespace Go.Proofs.Ythlehngbadianaa.Ow
open Go Go.RowKit

/-- Part of a slice. -/
def SubSl (uc : Value) (es off len : Nat) (u : Value) : Prop :=
  (uc = .slice none 0 0 ∧ off = 0 ∧ len = 0 ∧ u = .slice none 0 0) ∨
  ∃ B o n cap ao cap', uc = .slice (some ⟨B, o, none⟩) n cap ∧ u = .slice (some ⟨B, ao, none⟩) len cap' ∧ len ≤ cap' ∧ off + cap' ≤ cap ∧ (cap' = 0 ∨ ao = o + off * es)

/-- A slice of array cells; or (es = 0) what is known of the block. -/
def SaOk (w : World) (B o j es len cap ao : Nat) (u : Value) : Prop :=
  if es = 0 then o = 0 ∧ w.shape? B = some (len, cap) ∧ u.oneCell' = true else u = .slice (some ⟨B, ao, none⟩) len cap ∧ len ≤ cap ∧ (cap = 0 ∨ ao = o + j)
theorem SaOk.one {w : World} {B o j es len cap ao : Nat} {u : Value} (h : SaOk w B o j es len cap ao u) : u.oneCell' = true := by
  unfold SaOk at h
  split at h
  · exact h.2.2
  · rw [h.1]; rfl
theorem SaOk.pos {w : World} {B o j es len cap ao : Nat} {u : Value} (h : SaOk w B o j es len cap ao u) (hes : es ≠ 0) : u = .slice (some ⟨B, ao, none⟩) len cap ∧ len ≤ cap ∧ (cap = 0 ∨ ao = o + j) := by
  unfold SaOk at h; rwa [if_neg hes] at h
theorem Kp.shape {w w' : World} {F F' T : Fp} (k : Kp w F w' F' T) {b : Nat} {s : TypeId × Nat} (h : w.shape? b = some s) : w'.shape? b = some s := by
  obtain ⟨⟨M, a1, _, _⟩, _⟩ := k
  unfold World.shape? at h ⊢
  split at h
  · rename_i c e fz hh
    obtain ⟨arr', fz', h1, h2, _⟩ := a1.blk b c e fz hh
    rw [h1]
    simp only at h ⊢
    rw [h2]; exact h
  · simp at h
theorem SaOk.keep {w w' : World} {F F' T : Fp} (k : Kp w F w' F' T) {B o j es len cap ao : Nat} {u : Value} (h : SaOk w B o j es len cap ao u) : SaOk w' B o j es len cap ao u := by
  unfold SaOk at h ⊢
  split
  · rename_i e; rw [if_pos e] at h; exact ⟨h.1, k.shape h.2.1, h.2.2⟩
  · rename_i e; rw [if_neg e] at h; exact h
section
variable (w : World) (F : Fp) (env : Nat → RLoc) (rt : Al)
/-- A cell's value that owns nothing. -/
def LR1 (c : AV) (u : Value) : Prop :=
  match c with
  | .ref p => ∃ B o, rloc w env rt p.r p.path = some (.mem B o) ∧ u = .pointer (some ⟨B, o + p.j, none⟩)
  | .sl p es off len => ∃ l uc xs, rloc w env rt p.r p.path = some l ∧ cellAt rt p.r p.path p.j = some (.own es xs) ∧ rcell w l p.j = some uc ∧ off + len ≤ xs.length ∧ SubSl uc es off len u
  | .sa p es len cap => ∃ B o ao, rloc w env rt p.r p.path = some (.mem B o) ∧ SaOk w B o p.j es len cap ao u
  | c => Rep w F c u E0
def LR (c : AV) (u : Value) : Prop :=
  match c with
  | .fn f caps => ∃ us : Array Value, u = .func (.func f) #[] us ∧ us.size = caps.length ∧ ∀ (i : Nat) c v, caps[i]? = some c → us[i]? = some v → LR1 w F env rt c v
  | c => LR1 w F env rt c u
def SV1 (x : AV) (u : Value) : Prop :=
  match x with
  | .agg cs => ∃ us : Array Value, u = .agg us ∧ us.size = cs.length ∧ ∀ (i : Nat) c v, cs[i]? = some c → us[i]? = some v → LR w F env rt c v
  | .tup _ => False
  | c => LR w F env rt c u
def SV (x : AV) (u : Value) : Prop :=
  match x with
  | .tup xs => ∃ us : Array Value, u = .tuple us ∧ us.size = xs.length ∧ ∀ (i : Nat) c v, xs[i]? = some c → us[i]? = some v → SV1 w F env rt c v
  | c => SV1 w F env rt c u
end

theorem SubSl.one {uc u : Value} {es off len : Nat} (h : SubSl uc es off len u) : u.oneCell' = true := by
  rcases h with ⟨_, _, _, rfl⟩ | ⟨_, _, _, _, _, _, _, rfl, _⟩ <;> rfl
section
variable {w : World} {F : Fp} {env : Nat → RLoc} {rt : Al}
theorem LR1.one {c : AV} {u : Value} (h : LR1 w F env rt c u) : u.oneCell' = true := by
  cases c <;> simp only [LR1] at h
  case ref p => obtain ⟨_, _, _, rfl⟩ := h; rfl
  case sl p es off len => obtain ⟨_, _, _, _, _, _, _, h⟩ := h; exact h.one
  case sa p es len cap => obtain ⟨_, _, _, _, h⟩ := h; exact h.one
  all_goals exact h.one
theorem LR1.avone {c : AV} {u : Value} (h : LR1 w F env rt c u) : c.one = true := by
  cases c <;> simp only [LR1] at h
  case ref p => rfl
  case sl p es off len => rfl
  case sa p es len cap => rfl
  all_goals exact h.avone
theorem LR.one {c : AV} {u : Value} (h : LR w F env rt c u) : u.oneCell' = true := by
  cases c <;> simp only [LR] at h
  case fn f caps => obtain ⟨_, rfl, _⟩ := h; rfl
  all_goals exact h.one
theorem LR.avone {c : AV} {u : Value} (h : LR w F env rt c u) : c.one = true := by
  cases c <;> simp only [LR] at h
  case fn f caps => rfl
  all_goals exact h.avone
theorem SV1_one {x : AV} {u : Value} (h : x.one = true) : SV1 w F env rt x u ↔ LR w F env rt x u := by cases x <;> simp_all [SV1, AV.one]
theorem SV_one {x : AV} {u : Value} (h : x.one = true) : SV w F env rt x u ↔ LR w F env rt x u := by cases x <;> simp_all [SV, SV1, AV.one]
theorem LR.of_rep {c : AV} {u : Value} (h : Rep w F c u E0) : LR w F env rt c u := by
  cases c <;> simp only [LR]
  case fn f caps =>
    cases h with
    | fn hl hr hT =>
      refine ⟨_, rfl, hl, fun i c v hc hv => ?_⟩
      have := hr i c v hc hv
      cases c <;> simp only [LR1] <;> first | exact this | (cases this)
  all_goals
    simp only [LR1]
    first | exact h | (cases h)
end

/-! What a change of one root leaves of a slot's value. -/
def surv1 (r d lo hi : Nat) : AV → Bool
  | .ref p => p.r != r || decide (p.path.length ≤ d)
  | .sa p _ _ _ => p.r != r || decide (p.path.length ≤ d)
  | .sl p _ _ _ => p.r != r || decide (p.path.length < d) || (p.path.length == d && (decide (p.j < lo) || decide (hi ≤ p.j)))
  | _ => true
def notR (r : Nat) : AV → Bool
  | .ref p => p.r != r
  | .sa p _ _ _ => p.r != r
  | .sl p _ _ _ => p.r != r
  | _ => true

/-- From one state to another one, some references live on. -/
structure Lives (w : World) (F : Fp) (env : Nat → RLoc) (rt : Al) (w' : World) (F' : Fp) (env' : Nat → RLoc) (rt' : Al) (ok : AV → Bool) : Prop where
  rep : ∀ c u, Rep w F c u E0 → Rep w' F' c u E0
  ref : ∀ p u, ok (.ref p) = true → LR1 w F env rt (.ref p) u → LR1 w' F' env' rt' (.ref p) u
  sl : ∀ p es off len u, ok (.sl p es off len) = true → LR1 w F env rt (.sl p es off len) u → LR1 w' F' env' rt' (.sl p es off len) u
  sa : ∀ p es len cap u, ok (.sa p es len cap) = true → LR1 w F env rt (.sa p es len cap) u → LR1 w' F' env' rt' (.sa p es len cap) u

def okF (ok : AV → Bool) : AV → Bool
  | .fn _ caps => caps.all ok
  | c => ok c
def cut1 (ok : AV → Bool) (c : AV) : AV := if okF ok c then c else .junk
def cut2 (ok : AV → Bool) : AV → AV
  | .agg cs => .agg (cs.map (cut1 ok))
  | c => cut1 ok c
def cutV (ok : AV → Bool) : AV → AV
  | .tup xs => .tup (xs.map (cut2 ok))
  | c => cut2 ok c
def isR : AV → Bool
  | .ref _ => true
  | .sl _ _ _ _ => true
  | .sa _ _ _ _ => true
  | _ => false

section
variable {w : World} {F : Fp} {env : Nat → RLoc} {rt : Al} {w' : World} {F' : Fp} {env' : Nat → RLoc} {rt' : Al} {ok : AV → Bool}
theorem Lives.lr1 (h : Lives w F env rt w' F' env' rt' ok) {c : AV} {u : Value} (hk : ok c = true) (hr : LR1 w F env rt c u) : LR1 w' F' env' rt' c u := by
  cases c
  case ref p => exact h.ref _ _ hk hr
  case sl p es off len => exact h.sl _ _ _ _ _ hk hr
  case sa p es len cap => exact h.sa _ _ _ _ _ hk hr
  all_goals exact h.rep _ _ hr
theorem Lives.lr (h : Lives w F env rt w' F' env' rt' ok) {c : AV} {u : Value} (hk : okF ok c = true) (hr : LR w F env rt c u) : LR w' F' env' rt' c u := by
  cases c <;> simp only [LR] at hr ⊢
  case fn f caps =>
    obtain ⟨us, h1, h2, h3⟩ := hr
    refine ⟨us, h1, h2, fun i c v hc hv => h.lr1 ?_ (h3 i c v hc hv)⟩
    simp only [okF, List.all_eq_true] at hk
    exact hk c (List.mem_of_getElem? hc)
  all_goals exact h.lr1 hk hr
theorem junk_lr {u : Value} (h : u.oneCell' = true) : LR w F env rt .junk u := Rep.junk h fun _ _ h => h
theorem Lives.cut1 (h : Lives w F env rt w' F' env' rt' ok) {c : AV} {u : Value} (hr : LR w F env rt c u) : LR w' F' env' rt' (Ow.cut1 ok c) u := by
  unfold Ow.cut1
  split
  · rename_i hk; exact h.lr hk hr
  · exact junk_lr hr.one
theorem cut1_one (c : AV) : c.one = true → (Ow.cut1 ok c).one = true := by
  intro h; unfold Ow.cut1; split
  · exact h
  · rfl
theorem Lives.cut2 (h : Lives w F env rt w' F' env' rt' ok) {c : AV} {u : Value} (hr : SV1 w F env rt c u) : SV1 w' F' env' rt' (Ow.cut2 ok c) u := by
  by_cases hc : ∃ cs, c = .agg cs
  · obtain ⟨cs, rfl⟩ := hc
    simp only [Ow.cut2, SV1] at hr ⊢
    obtain ⟨us, h1, h2, h3⟩ := hr
    refine ⟨us, h1, by simp [h2], fun i c v hc hv => ?_⟩
    rw [List.getElem?_map, Option.map_eq_some_iff] at hc
    obtain ⟨c0, hc0, rfl⟩ := hc
    exact h.cut1 (h3 i c0 v hc0 hv)
  · have hone : c.one = true := by
      cases c <;> simp_all [SV1, AV.one]
    have e : Ow.cut2 ok c = Ow.cut1 ok c := by cases c <;> first | rfl | simp_all
    rw [e, SV1_one (cut1_one c hone)]
    exact h.cut1 ((SV1_one hone).1 hr)
theorem Lives.cutV (h : Lives w F env rt w' F' env' rt' ok) {c : AV} {u : Value} (hr : SV w F env rt c u) : SV w' F' env' rt' (Ow.cutV ok c) u := by
  by_cases hc : ∃ cs, c = .tup cs
  · obtain ⟨cs, rfl⟩ := hc
    simp only [Ow.cutV, SV] at hr ⊢
    obtain ⟨us, h1, h2, h3⟩ := hr
    refine ⟨us, h1, by simp [h2], fun i c v hc hv => ?_⟩
    rw [List.getElem?_map, Option.map_eq_some_iff] at hc
    obtain ⟨c0, hc0, rfl⟩ := hc
    exact h.cut2 (h3 i c0 v hc0 hv)
  · have e : Ow.cutV ok c = Ow.cut2 ok c := by cases c <;> first | rfl | simp_all
    have hs : SV1 w F env rt c u := by cases c <;> first | exact hr | simp_all
    have := h.cut2 hs
    rw [e]
    have hnt : ∀ xs, Ow.cut2 ok c ≠ .tup xs := by
      intro xs he
      cases c <;> simp only [Ow.cut2] at he
      case agg => cases he
      all_goals
        unfold Ow.cut1 at he
        split at he <;> simp_all
    generalize Ow.cut2 ok c = y at this hnt
    cases y <;> first | exact this | simp_all
theorem Lives.trans {w2 : World} {F2 : Fp} {env2 : Nat → RLoc} {rt2 : Al} {ok2 : AV → Bool} (h : Lives w F env rt w' F' env' rt' ok) (k : Lives w' F' env' rt' w2 F2 env2 rt2 ok2) : Lives w F env rt w2 F2 env2 rt2 (fun c => ok c && ok2 c) :=
  ⟨fun c u hr => k.rep _ _ (h.rep _ _ hr), fun p u ho hr => by rw [Bool.and_eq_true] at ho; exact k.ref _ _ ho.2 (h.ref _ _ ho.1 hr), fun p es off len u ho hr => by rw [Bool.and_eq_true] at ho; exact k.sl _ _ _ _ _ ho.2 (h.sl _ _ _ _ _ ho.1 hr), fun p es len cap u ho hr => by rw [Bool.and_eq_true] at ho; exact k.sa _ _ _ _ _ ho.2 (h.sa _ _ _ _ _ ho.1 hr)⟩
end

/-! The state. -/
/-- Roots that a caller lent. -/
def pin (r : Nat) : Bool := decide (r < 1000) || decide (9000 ≤ r)
def VB : Nat := 2000
/-- X: what is owned and lies in no root. -/
structure Rel (w : World) (F X : Fp) (env : Nat → RLoc) (n : Nat) (a : Act) (st : St) : Prop where
  ok : ∃ T, Ok w F env T st.rt ∧ ∀ r x b a, st.rt.get r = some x → T r b a → ¬ X b a
  xsub : ∀ b a, X b a → F b a
  kind : ∀ r x, st.rt.get r = some x → (r < VB → ∃ B o, env r = .mem B o) ∧ (VB ≤ r → ∃ u, env r = .val u)
  sv : ∀ k x, st.sl.get k = some x → SV w F env st.rt x (a.tmps.getD k undef)
  rf : ∀ e ∈ st.rf, ∃ B o u, env e.1 = .mem B o ∧ (∃ x, st.rt.get e.1 = some x ∧ e.2.1 < x.cells.length) ∧ w.cell? ⟨B, o + e.2.1, none⟩ = some u ∧ LR w F env st.rt e.2.2 u
  size : a.tmps.size = n
  defers : a.defers = []

structure Tr (w : World) (F : Fp) (env : Nat → RLoc) (w' : World) (F' : Fp) (env' : Nat → RLoc) : Prop where
  kp : Kp w F w' F' E0
  env : ∀ r, pin r = true → env' r = env r
theorem Tr.refl (w : World) (F : Fp) (env : Nat → RLoc) : Tr w F env w F env := ⟨Kp.refl _ _ _, fun _ _ => rfl⟩
theorem Tr.trans {w w1 w2 : World} {F F1 F2 : Fp} {e e1 e2 : Nat → RLoc} (h : Tr w F e w1 F1 e1) (k : Tr w1 F1 e1 w2 F2 e2) : Tr w F e w2 F2 e2 := ⟨h.kp.trans k.kp, fun r hr => (k.env r hr).trans (h.env r hr)⟩

abbrev Post := St → Prop
def Good (n : Nat) (w : World) (F : Fp) (env : Nat → RLoc) (K : Post) (a' : Act) (w' : World) : Prop :=
  ∃ F' env' st', K st' ∧ Rel w' F' E0 env' n a' st' ∧ Tr w F env w' F' env'
theorem Good.here {n : Nat} {w : World} {F : Fp} {env : Nat → RLoc} {K : Post} {a : Act} {st : St} (h : Rel w F E0 env n a st) (hk : K st) : Good n w F env K a w := ⟨F, env, st, hk, h, Tr.refl _ _ _⟩
theorem Good.trans {n : Nat} {w w1 : World} {F F1 : Fp} {env env1 : Nat → RLoc} {K : Post} {a' : Act} {w' : World} (ht : Tr w F env w1 F1 env1) (h : Good n w1 F1 env1 K a' w') : Good n w F env K a' w' := by
  obtain ⟨F', env', st', h1, h2, h3⟩ := h
  exact ⟨F', env', st', h1, h2, ht.trans h3⟩
theorem Good.mono {n : Nat} {w : World} {F : Fp} {env : Nat → RLoc} {K K' : Post} {a' : Act} {w' : World} (hk : ∀ st, K st → K' st) (h : Good n w F env K a' w') : Good n w F env K' a' w' := by
  obtain ⟨F', env', st', h1, h2, h3⟩ := h
  exact ⟨F', env', st', hk _ h1, h2, h3⟩

theorem getD_put (a : Act) (d k : Nat) (v : Value) (h : d < a.tmps.size) : (a.put (some d) v).tmps.getD k undef = if k = d then v else a.tmps.getD k undef := by
  simp only [Act.put, Array.getD_eq_getD_getElem?, Array.getElem?_setIfInBounds]
  by_cases hk : k = d
  · subst hk; simp [h]
  · simp [hk, Ne.symm hk]

def St.set (st : St) (d : Nat) (x : AV) : St := { st with sl := st.sl.set d x }
def St.del (st : St) (d : Nat) : St := { st with sl := st.sl.del d }
def St.unset (st : St) : Option Nat → St
  | some d => st.set d (.tup [])
  | none => st
section
variable {w : World} {F X : Fp} {env : Nat → RLoc} {n : Nat} {a : Act} {st : St}
/-- A slot is set. -/
theorem Rel.set (h : Rel w F X env n a st) {d : Nat} (hd : d < n) {x : AV} {v : Value} (hv : SV w F env st.rt x v) : Rel w F X env n (a.put (some d) v) (st.set d x) := by
  refine ⟨h.ok, h.xsub, h.kind, ?_, h.rf, by simp [Act.put, h.size], h.defers⟩
  intro k y hy
  rw [getD_put _ _ _ _ (by rw [h.size]; exact hd)]
  simp only [St.set, Al.get_set] at hy
  by_cases hk : k = d
  · subst hk; simp only [if_true] at hy ⊢; obtain rfl := Option.some.inj hy; exact hv
  · simp only [hk, if_false] at hy ⊢; exact h.sv k y hy
theorem Rel.del (h : Rel w F X env n a st) (d : Nat) : Rel w F X env n a (st.del d) := by
  refine ⟨h.ok, h.xsub, h.kind, ?_, h.rf, h.size, h.defers⟩
  intro k y hy
  simp only [St.del, Al.get_del] at hy
  split at hy
  · simp at hy
  · exact h.sv k y hy
theorem Rel.unset (h : Rel w F X env n a st) (dst : Option Tmp) (hd : ∀ d, dst = some d → d < n) : Rel w F X env n (a.put dst undef) (st.unset dst) := by
  cases dst with
  | none => exact h
  | some d => exact h.set (hd d rfl) ⟨#[], rfl, rfl, fun i c v hc => by simp at hc⟩
/-- A guard's slot: what it says, or that it was itself left out. -/
def gb (want : Bool) : Option AV → Option Bool
  | some (.v (.bool b)) => some b
  | some (.tup []) => some (!want)
  | _ => none

inductive Opd where
  | s (k : Nat)
  | c (v : Value)
  | g (f : FuncId)
def Opd.to : Opd → Operand
  | .s k => .tmp k
  | .c v => .const v
  | .g f => .func f
def opd : Operand → Option Opd
  | .tmp t => some (.s t)
  | .const v => some (.c v)
  | .func f => some (.g f)
  | .global _ => none
theorem opd_to {x : Operand} {o : Opd} (h : opd x = some o) : o.to = x := by
  cases x <;> simp [opd] at h <;> subst h <;> rfl
def St.ev (st : St) : Opd → Option AV
  | .s k => st.sl.get k
  | .c v => if v.oneCell' then some (.v v) else none
  | .g f => some (.fn f [])
theorem Rel.ev (h : Rel w F X env n a st) {o : Opd} {x : AV} (hx : st.ev o = some x) : SV w F env st.rt x (a.eval o.to) := by
  cases o with
  | s k => exact h.sv k x hx
  | c v =>
    simp only [St.ev] at hx
    split at hx
    · rename_i hv
      obtain rfl := Option.some.inj hx
      exact Rep.v hv fun _ _ h => h
    · simp at hx
  | g f =>
    simp only [St.ev, Option.some.injEq] at hx
    subst hx
    exact ⟨#[], rfl, rfl, fun i c v hc => by simp at hc⟩
end
end Go.Proofs.Ythlehngbadianaa.Ow
