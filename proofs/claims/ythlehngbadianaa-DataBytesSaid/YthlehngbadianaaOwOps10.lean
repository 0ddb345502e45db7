/- Copies into arrays. -/
import Derived.Test.YthlehngbadianaaOwOps9
import Derived.Laws.IdiomCopy
set_option linter.unusedVariables false
set_option linter.unusedSimpArgs false
set_option linter.unnecessarySimpa false
namespace Go.Proofs.Ythlehngbadianaa.Ow
open Go Go.RowKit

def flatC : List AV → List AV
  | [] => []
  | y :: ys => y.cells ++ flatC ys
def copyPut (d : Nat) (st : St) (p : Pl) (x z : AV) : List AV → St
  | [] => st.set d (.v (.int .i64 0))
  | c :: cs => (st.setC p.r p.path p.j (p.j + (c :: cs).length) (x.setSub p.path (z.putCells p.j (c :: cs)))).set d (.v (.int .i64 (c :: cs).length))
def copyA (d : Nat) (st : St) (p : Pl) (dl : Nat) (ys : List AV) : Option AV → Option AV → Option St
  | some x, some z => if ys.all (storE 1) = true ∧ p.j + dl ≤ z.cells.length ∧ (p.path = [] → p.r < VB) then some (copyPut d st p x z (flatC (ys.take dl))) else none
  | _, _ => none
def copyS (d : Nat) (st : St) (p : Pl) (dl : Nat) : Option (List AV) → Option St
  | some ys => copyA d st p dl ys (st.rt.get p.r) (st.node p)
  | none => none
def copy1 (d : Nat) (st : St) : Option AV → Option AV → Option St
  | some (.sa p es dl _), some y => if es = 1 then copyS d st p dl (rdS 1 st y) else none
  | _, _ => none

theorem flatC_get : ∀ (ys : List AV), (∀ y ∈ ys, y.cells.length = 1) → ∀ (i : Nat) c, (flatC ys)[i]? = some c ↔ ∃ y, ys[i]? = some y ∧ y.cells[0]? = some c
  | [], _, i, c => by simp [flatC]
  | y :: ys, h, i, c => by
    have h1 := h y (by simp)
    obtain ⟨c0, hc0⟩ : ∃ c0, y.cells = [c0] := List.length_eq_one_iff.1 h1
    simp only [flatC, hc0, List.singleton_append]
    cases i with
    | zero => simp [hc0]
    | succ i =>
      simp only [List.getElem?_cons_succ]
      exact flatC_get ys (fun y hy => h y (by simp [hy])) i c
theorem flatC_length : ∀ (ys : List AV), (∀ y ∈ ys, y.cells.length = 1) → (flatC ys).length = ys.length
  | [], _ => rfl
  | y :: ys, h => by simp only [flatC, List.length_append, h y (by simp), flatC_length ys (fun y hy => h y (by simp [hy])), List.length_cons]; omega

section
variable {P : Program} {w : World} {F X : Fp} {env : Nat → RLoc} {n : Nat} {a : Act} {st : St} {rt : Al}
theorem copy_sound {o : Oper} {x y : Operand} {ox oy : Opd} {t ty e : TypeId} {d : Nat} {K : Post} (hop : o.op = .call { callee := .builtin .copy, args := #[x, y], argTypes := #[t, ty] }) (hu : P.underlying t = some (.slice e)) (hs : (P.info? e).map (·.size) = some 1)
    (hox : opd x = some ox) (hoy : opd y = some oy) (hd : o.dst = some d) (hdn : d < n) {st' : St} (hst : copy1 d st (st.ev ox) (st.ev oy) = some st') (hk : K st') : AOp P n o st K := by
  intro w F env a h
  cases h1 : st.ev ox with
  | none => simp [h1, copy1] at hst
  | some vx =>
  cases h2 : st.ev oy with
  | none => cases vx <;> simp [h1, h2, copy1] at hst
  | some vy =>
  rw [h1, h2] at hst
  obtain ⟨p, es, dl, cap, rfl⟩ : ∃ p es dl cap, vx = .sa p es dl cap := by cases vx <;> simp [copy1] at hst; exact ⟨_, _, _, _, rfl⟩
  simp only [copy1] at hst
  split at hst
  · rename_i hes
    subst hes
    cases hr : rdS 1 st vy with
    | none => simp [hr, copyS] at hst
    | some ys =>
    simp only [hr, copyS] at hst
    cases hx : st.rt.get p.r with
    | none => simp [hx, copyA] at hst
    | some xt =>
    cases hz : st.node p with
    | none => simp [hx, hz, copyA] at hst
    | some z =>
    simp only [hx, hz, copyA] at hst
    split at hst
    · rename_i hh
      obtain ⟨c1, c2, c3⟩ := hh
      obtain rfl := Option.some.inj hst
      have hv := h.ev h1
      rw [opd_to hox] at hv
      obtain ⟨B, o0, ao, l1, l2⟩ := hv
      obtain ⟨l2, l3, l4⟩ := l2.pos (by decide)
      have hvy := h.ev h2
      rw [opd_to hoy] at hvy
      obtain ⟨ad, cap2, e1, e2, e3⟩ := h.rd hvy hr
      have hone : ∀ y ∈ ys, y.cells.length = 1 := fun y hy => (storE_spec (List.all_eq_true.1 c1 y hy)).1
      have honet : ∀ y ∈ ys.take dl, y.cells.length = 1 := fun y hy => hone y (List.mem_of_mem_take hy)
      have hfl := flatC_length (ys.take dl) honet
      have hexec : ∀ v w', (Builtin.copy_ #[t, ty] o.type #[a.eval x, a.eval y]).run P w = .ok v w' → (execOp a.eval o).run P w = .ok (.value v) w' := by
        intro v w' hr
        unfold execOp
        simp only [hop, resolve, invoke, builtin, Sem.run_bind, Sem.run_pure, Result.andThen_ok, List.map_toArray, List.map_cons, List.map_nil, hr]
      have hz0 : ∃ xt', st.rt.get p.r = some xt' ∧ xt'.sub p.path = some z := by
        unfold St.node at hz
        rw [hx] at hz
        exact ⟨xt, hx, hz⟩
      obtain ⟨xt', hx', hz'⟩ := hz0
      rw [hx] at hx'
      obtain rfl := Option.some.inj hx'
      generalize hcs : flatC (ys.take dl) = cs at hk hfl
      cases cs with
      | nil =>
        have hn : Nat.min ys.length dl = 0 := by
          have : (ys.take dl).length = 0 := by simpa using hfl.symm
          rw [List.length_take, Nat.min_comm] at this
          exact this
        have hr := run_copy_none (P := P) w t ty o.type e (some ⟨B, ao, none⟩) ad dl cap ys.length cap2 hu hs hn
        rw [← l2, ← e1] at hr
        simp only [Oper.wp, hexec _ _ hr, Oper.upon, hd]
        exact Good.here (h.set hdn (x := .v (.int .i64 0)) (v := goInt 0) (Rep.v rfl fun _ _ h => h)) hk
      | cons c cs =>
        have hlen : (c :: cs).length = Nat.min ys.length dl := by rw [hfl, List.length_take, Nat.min_comm]
        have hpos : 0 < Nat.min ys.length dl := by rw [← hlen]; simp
        have hmin1 : Nat.min ys.length dl ≤ ys.length := Nat.min_le_left _ _
        have hmin2 : Nat.min ys.length dl ≤ dl := Nat.min_le_right _ _
        have hao := l4.resolve_left (by omega)
        rcases e3 with ⟨_, rfl, _⟩ | ⟨B2, o2, rfl, e4, e5⟩
        · simp at hpos
        have hget : ∀ (i : Nat) c', (c :: cs)[i]? = some c' → ∃ u, w.cell? ⟨B2, o2 + i, none⟩ = some u ∧ Rep w F c' u E0 := by
          intro i c' hi
          rw [← hcs] at hi
          obtain ⟨y, h3, h4⟩ := (flatC_get _ honet i c').1 hi
          rw [List.getElem?_take] at h3
          split at h3
          · obtain ⟨u, S, k1, k2⟩ := e5 i y h3 0 c' h4
            refine ⟨u, by simpa using k1, k2.stor ?_⟩
            exact (storE_spec (List.all_eq_true.1 c1 y (List.mem_of_getElem? h3))).2 c' (List.mem_of_getElem? h4)
          · simp at h3
        let vs : List Value := (List.range (c :: cs).length).map fun i => (w.cell? ⟨B2, o2 + i, none⟩).getD undef
        have hvl : vs.length = (c :: cs).length := by simp [vs]
        have hvg : ∀ (i : Nat) v, vs[i]? = some v → ∃ c', (c :: cs)[i]? = some c' ∧ w.cell? ⟨B2, o2 + i, none⟩ = some v ∧ Rep w F c' v E0 := by
          intro i v hi
          have hlt : i < (c :: cs).length := by rw [← hvl]; exact (List.getElem?_eq_some_iff.1 hi).1
          obtain ⟨u, k1, k2⟩ := hget i _ (List.getElem?_eq_getElem hlt)
          have : vs[i]? = some u := by simp only [vs, List.getElem?_map, List.getElem?_range hlt, Option.map_some, k1, Option.getD_some]
          rw [this] at hi
          obtain rfl := Option.some.inj hi
          exact ⟨_, List.getElem?_eq_getElem hlt, k1, k2⟩
        obtain ⟨B', o', m1, m2, m3, m4⟩ := h.putLeaf hx hz' c3 (j := p.j) (cs := c :: cs) (vs := vs) hvl (by omega) (by simp) (by
          intro i c' v hi hv'
          obtain ⟨c2', k1, k2, k3⟩ := hvg i v hv'
          rw [hi] at k1
          obtain rfl := Option.some.inj k1
          exact k3)
        rw [l1] at m1
        simp only [Option.some.injEq, RLoc.mem.injEq] at m1
        obtain ⟨rfl, rfl⟩ := m1
        have hr := run_copy_cells (P := P) w t ty o.type e B (o0 + p.j) dl cap ⟨B2, o2, none⟩ ys.length cap2 vs hu hs (by rw [hvl, hlen])
          (fun j v hj => by
            obtain ⟨_, _, k2, _⟩ := hvg j v hj
            rw [add_plain']; exact k2)
          (fun j hj => by have := (m2 (p.j + j) (by omega)).1; rwa [← Nat.add_assoc] at this) (fun j hj => by have := (m2 (p.j + j) (by omega)).2; rwa [← Nat.add_assoc] at this)
          (fun v hv' => by
            obtain ⟨i, hi⟩ := List.getElem?_of_mem hv'
            obtain ⟨_, _, _, k3⟩ := hvg i v hi
            exact k3.one)
        rw [← hao, ← l2, ← e1] at hr
        simp only [Oper.wp, hexec _ _ hr, Oper.upon, hd]
        rw [← hao] at m3 m4
        refine ⟨F, env, _, hk, m3.set hdn ?_, m4⟩
        rw [hvl]
        exact Rep.v rfl fun _ _ h => h
    · simp at hst
  · simp at hst
end
end Go.Proofs.Ythlehngbadianaa.Ow
