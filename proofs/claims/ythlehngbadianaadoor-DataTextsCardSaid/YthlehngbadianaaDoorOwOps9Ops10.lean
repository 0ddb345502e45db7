/- Boxes; all stores. -/
import Derived.Test.YthlehngbadianaaDoorOwOps7Ops8
import Derived.Laws.IdiomCopy
set_option linter.unusedVariables false
set_option linter.unusedSimpArgs false
set_option linter.unnecessarySimpa false
namespace Go.Proofs.YthlehngbadianaaDoor.Ow
open Go Go.RowKit
def putAll : AV → AV
  | .agg cs => .agg (cs.map cellPut)
  | .tup cs => .tup (cs.map cellPut)
  | c => cellPut c
theorem putAll_cells {y : AV} (hn : ntup y = true) : (putAll y).cells = y.cells.map cellPut := by
  by_cases h : ∃ as, y = .agg as
  · obtain ⟨as, rfl⟩ := h; rfl
  · have hone : y.one = true := by cases y <;> simp_all [AV.one, ntup]
    rw [AV.cells_one hone]
    cases y <;> first | rfl | (simp_all [AV.one]; done) | (rw [AV.cells_one]; rfl; exact cellPut_one rfl)
/-- A box is made of a slot's value. -/
def box1 (d t : Nat) (st : St) : Option AV → Option St
  | some y =>
    if ntup y = true then
      if y.cells.all stor then some ((st.new (1000 + d) y).set d (.ref ⟨1000 + d, [], 0⟩))
      else
        let st1 := st.new (1000 + d) (putAll y)
        some (({ st1 with rf := rfNew (notR (1000 + d)) (1000 + d) 0 y.cells ++ st1.rf } : St).set d (.ref ⟨1000 + d, [], 0⟩))
    else none
  | none => none
section
variable {P : Program} {w : World} {F X : Fp} {env : Nat → RLoc} {n : Nat} {a : Act} {st : St} {rt : Al}
theorem box_sound {o : Oper} {ty : TypeId} {t d : Nat} {b : Bool} {K : Post} (hop : o.op = .box ty (.tmp t)) (hd : o.dst = some d) (hdn : d < n) (hn : n ≤ 1000) {st' : St} (hs : box1 d t st (st.sl.get t) = some st') (hk : K st') : AOpC b P n o st K := by
  intro w F env a h
  cases hy : st.sl.get t with
  | none => simp [hy, box1] at hs
  | some y =>
    simp only [hy, box1] at hs
    split at hs
    case isFalse => simp at hs
    rename_i c1
    have hsv := h.sv t y hy
    obtain ⟨e1, e2⟩ := hsv.cells c1
    have hexec : (execOp a.eval o).run P w = .ok (.value (.pointer (some ⟨w.heap.size, 0, none⟩))) (w.alloc (.cells (a.tmps.getD t undef).cells ty)) := by
      unfold execOp
      simp [hop, Act.eval, Instr.box, newVar, newRow]
    have hbel : Below w.heap.size w (w.alloc (.cells (a.tmps.getD t undef).cells ty)) := (Below.refl _ _).alloc (Nat.le_refl _) _
    simp only [Oper.wp, hexec, Oper.upon, hd]
    refine ⟨fun _ => hbel, ?_⟩
    have hkp : ∀ T : Fp, Kp w F (w.alloc (.cells (a.tmps.getD t undef).cells ty)) (fun b a' => F b a' ∨ (b = w.heap.size ∧ a' < y.cells.length)) T := fun T =>
      ⟨⟨E0, Agree.below hbel _, fun _ _ h => h.elim, fun _ _ _ h => h⟩, by
        rintro b a' (hh | ⟨rfl, _⟩)
        · exact .inl hh
        · exact .inr (Nat.le_refl _)⟩
    have hmain : ∀ x : AV, x.cells.length = y.cells.length → (∀ (i : Nat) c v, x.cells[i]? = some c → (a.tmps.getD t undef).cells[i]? = some v → Rep w F c v E0) →
        Rel (w.alloc (.cells (a.tmps.getD t undef).cells ty)) (fun b a' => F b a' ∨ (b = w.heap.size ∧ a' < y.cells.length)) E0 (fun r' => if r' = 1000 + d then .mem w.heap.size 0 else env r') n a (st.new (1000 + d) x) ∧
        Tr w F env (w.alloc (.cells (a.tmps.getD t undef).cells ty)) (fun b a' => F b a' ∨ (b = w.heap.size ∧ a' < y.cells.length)) (fun r' => if r' = 1000 + d then .mem w.heap.size 0 else env r') := by
      intro x hxl hx
      refine h.newRoot hbel (r := 1000 + d) (pin_loc hdn hn 0 (by omega)) (x := x) (l := .mem w.heap.size 0) (S := fun b a' => b = w.heap.size ∧ a' < y.cells.length) (by rintro b a' ⟨rfl, _⟩; simp) ?_ ⟨fun _ => ⟨_, _, rfl⟩, fun h => by simp [VB] at h; omega⟩
      refine Nd.fresh hxl (Blk_alloc (by rw [e1]; exact Nat.le_refl _)) ?_
      intro i c hc
      have hi := (List.getElem?_eq_some_iff.1 hc).1
      have hv : (a.tmps.getD t undef).cells[i]? = some ((a.tmps.getD t undef).cells[i]'(by rw [e1, ← hxl]; exact hi)) := Array.getElem?_eq_getElem _
      exact ⟨_, by rw [cell_alloc_new]; exact hv, (hx i c _ hc hv).keep (hkp _)⟩
    split at hs
    · rename_i hall
      obtain rfl := Option.some.inj hs
      obtain ⟨k1, k2⟩ := hmain y rfl (fun i c v hc hv => (e2 i c v hc hv).rep (List.all_eq_true.1 hall c (List.mem_of_getElem? hc)))
      exact ⟨_, _, _, hk, k1.set hdn ref_new, k2⟩
    · rename_i hall
      obtain rfl := Option.some.inj hs
      obtain ⟨k1, k2⟩ := hmain (putAll y) (by rw [putAll_cells c1, List.length_map]) (by
        intro i c v hc hv
        rw [putAll_cells c1, List.getElem?_map, Option.map_eq_some_iff] at hc
        obtain ⟨c0, hc0, rfl⟩ := hc
        have hlr := e2 i c0 v hc0 hv
        unfold cellPut
        split
        · rename_i hst; exact hlr.rep hst
        · exact .junk hlr.one fun _ _ h => h)
      have k3 := k1.addRf (rfNew (notR (1000 + d)) (1000 + d) 0 y.cells) (by
        intro e he
        obtain ⟨i, c, hc, rfl⟩ := rfNew_mem _ _ _ _ _ he
        have hil := (List.getElem?_eq_some_iff.1 hc).1
        have hv : (a.tmps.getD t undef).cells[i]? = some ((a.tmps.getD t undef).cells[i]'(by rw [e1]; exact hil)) := Array.getElem?_eq_getElem _
        refine ⟨w.heap.size, 0, _, by simp only [if_true], ⟨putAll y, St.new_get _ _ _, by rw [putAll_cells c1, List.length_map]; simp; exact hil⟩, by rw [cell_alloc_new]; simp only [Nat.zero_add]; exact hv, ?_⟩
        have hg := k1.sv t (cutV (notR (1000 + d)) y) (by simp only [St.new, St.drop, cutSl_get, hy, Option.map_some])
        exact cutV_cells hg c1 hc hv)
      exact ⟨_, _, _, hk, k3.set hdn ref_new, k2⟩
theorem store_sound {o : Oper} {ty : TypeId} {xo yo : Operand} {ox oy : Opd} {m : Nat} {K : Post} (hop : o.op = .store ty xo yo) (hd : o.dst = none) (hox : opd xo = some ox) (hoy : opd yo = some oy) (hsz : sizeT P ty = some m)
    {st' : St} (hs : store1 m st (st.ev ox) (st.ev oy) = some st') (hk : K st') : AOp P n o st K := by
  unfold store1 at hs
  split at hs
  · rename_i p y hx hy
    unfold storeP at hs
    split at hs
    · rename_i q es off len
      split at hs
      · rename_i hne
        split at hs
        · rename_i hm
          subst hm
          exact storeM_sound hop hd hox hoy hsz hx hy hne hs hk
        · simp at hs
      · exact storeL_sound hop hd hox hoy hsz hx hy hs hk
    · exact storeL_sound hop hd hox hoy hsz hx hy hs hk
  · simp at hs
end
end Go.Proofs.YthlehngbadianaaDoor.Ow
namespace Go.Proofs.YthlehngbadianaaDoor.Ow
open Go Go.RowKit
def flatC : List AV → List AV
  | [] => []
  | y :: ys => y.cells ++ flatC ys
def copyPut (d : Nat) (st : St) (p : Pl) (x z : AV) : List AV → St
  | [] => st.set d (.v (.int .i64 0))
  | c :: cs => (st.setC p.r p.path p.j (p.j + (c :: cs).length) (x.setSub p.path (z.putCells p.j (c :: cs)))).set d (.v (.int .i64 (c :: cs).length))
def copyA (d : Nat) (st : St) (p : Pl) (dl : Nat) (ys : List AV) : Option AV → Option AV → Option St
  | some x, some z => if ys.all (storE 1) = true ∧ p.j + dl ≤ z.cells.length ∧ (p.path = [] → p.r < VB) then some (copyPut d st p x z (flatC (ys.take dl))) else none
  | _, _ => none
def copyS (d : Nat) (st : St) (p : Pl) (dl : Nat) : Option (List AV) → Option St
  | some ys => copyA d st p dl ys (st.rt.get p.r) (st.node p)
  | none => none
def copy1 (d : Nat) (st : St) : Option AV → Option AV → Option St
  | some (.sa p es dl _), some y => if es = 1 then copyS d st p dl (rdS 1 st y) else none
  | _, _ => none
theorem flatC_get : ∀ (ys : List AV), (∀ y ∈ ys, y.cells.length = 1) → ∀ (i : Nat) c, (flatC ys)[i]? = some c ↔ ∃ y, ys[i]? = some y ∧ y.cells[0]? = some c
  | [], _, i, c => by simp [flatC]
  | y :: ys, h, i, c => by
    have h1 := h y (by simp)
    obtain ⟨c0, hc0⟩ : ∃ c0, y.cells = [c0] := List.length_eq_one_iff.1 h1
    simp only [flatC, hc0, List.singleton_append]
    cases i with
    | zero => simp [hc0]
    | succ i =>
      simp only [List.getElem?_cons_succ]
      exact flatC_get ys (fun y hy => h y (by simp [hy])) i c
theorem flatC_length : ∀ (ys : List AV), (∀ y ∈ ys, y.cells.length = 1) → (flatC ys).length = ys.length
  | [], _ => rfl
  | y :: ys, h => by simp only [flatC, List.length_append, h y (by simp), flatC_length ys (fun y hy => h y (by simp [hy])), List.length_cons]; omega
section
variable {P : Program} {w : World} {F X : Fp} {env : Nat → RLoc} {n : Nat} {a : Act} {st : St} {rt : Al}
theorem copy_sound {o : Oper} {x y : Operand} {ox oy : Opd} {t ty e : TypeId} {d : Nat} {K : Post} (hop : o.op = .call { callee := .builtin .copy, args := #[x, y], argTypes := #[t, ty] }) (hu : P.underlying t = some (.slice e)) (hs : (P.info? e).map (·.size) = some 1)
    (hox : opd x = some ox) (hoy : opd y = some oy) (hd : o.dst = some d) (hdn : d < n) {st' : St} (hst : copy1 d st (st.ev ox) (st.ev oy) = some st') (hk : K st') : AOp P n o st K := by
  intro w F env a h
  cases h1 : st.ev ox with
  | none => simp [h1, copy1] at hst
  | some vx =>
  cases h2 : st.ev oy with
  | none => cases vx <;> simp [h1, h2, copy1] at hst
  | some vy =>
  rw [h1, h2] at hst
  obtain ⟨p, es, dl, cap, rfl⟩ : ∃ p es dl cap, vx = .sa p es dl cap := by cases vx <;> simp [copy1] at hst; exact ⟨_, _, _, _, rfl⟩
  simp only [copy1] at hst
  split at hst
  · rename_i hes
    subst hes
    cases hr : rdS 1 st vy with
    | none => simp [hr, copyS] at hst
    | some ys =>
    simp only [hr, copyS] at hst
    cases hx : st.rt.get p.r with
    | none => simp [hx, copyA] at hst
    | some xt =>
    cases hz : st.node p with
    | none => simp [hx, hz, copyA] at hst
    | some z =>
    simp only [hx, hz, copyA] at hst
    split at hst
    · rename_i hh
      obtain ⟨c1, c2, c3⟩ := hh
      obtain rfl := Option.some.inj hst
      have hv := h.ev h1
      rw [opd_to hox] at hv
      obtain ⟨B, o0, ao, l1, l2⟩ := hv
      obtain ⟨l2, l3, l4⟩ := l2.pos (by decide)
      have hvy := h.ev h2
      rw [opd_to hoy] at hvy
      obtain ⟨ad, cap2, e1, e2, e3⟩ := h.rd hvy hr
      have hone : ∀ y ∈ ys, y.cells.length = 1 := fun y hy => (storE_spec (List.all_eq_true.1 c1 y hy)).1
      have honet : ∀ y ∈ ys.take dl, y.cells.length = 1 := fun y hy => hone y (List.mem_of_mem_take hy)
      have hfl := flatC_length (ys.take dl) honet
      have hexec : ∀ v w', (Builtin.copy_ #[t, ty] o.type #[a.eval x, a.eval y]).run P w = .ok v w' → (execOp a.eval o).run P w = .ok (.value v) w' := by
        intro v w' hr
        unfold execOp
        simp only [hop, resolve, invoke, builtin, Sem.run_bind, Sem.run_pure, Result.andThen_ok, List.map_toArray, List.map_cons, List.map_nil, hr]
      have hz0 : ∃ xt', st.rt.get p.r = some xt' ∧ xt'.sub p.path = some z := by
        unfold St.node at hz
        rw [hx] at hz
        exact ⟨xt, hx, hz⟩
      obtain ⟨xt', hx', hz'⟩ := hz0
      rw [hx] at hx'
      obtain rfl := Option.some.inj hx'
      generalize hcs : flatC (ys.take dl) = cs at hk hfl
      cases cs with
      | nil =>
        have hn : Nat.min ys.length dl = 0 := by
          have : (ys.take dl).length = 0 := by simpa using hfl.symm
          rw [List.length_take, Nat.min_comm] at this
          exact this
        have hr := run_copy_none (P := P) w t ty o.type e (some ⟨B, ao, none⟩) ad dl cap ys.length cap2 hu hs hn
        rw [← l2, ← e1] at hr
        simp only [Oper.wp, hexec _ _ hr, Oper.upon, hd]
        exact Good.here (h.set hdn (x := .v (.int .i64 0)) (v := goInt 0) (Rep.v rfl fun _ _ h => h)) hk
      | cons c cs =>
        have hlen : (c :: cs).length = Nat.min ys.length dl := by rw [hfl, List.length_take, Nat.min_comm]
        have hpos : 0 < Nat.min ys.length dl := by rw [← hlen]; simp
        have hmin1 : Nat.min ys.length dl ≤ ys.length := Nat.min_le_left _ _
        have hmin2 : Nat.min ys.length dl ≤ dl := Nat.min_le_right _ _
        have hao := l4.resolve_left (by omega)
        rcases e3 with ⟨rfl, _⟩ | ⟨B2, o2, rfl, e4, e5⟩
        · simp at hpos
        have hget : ∀ (i : Nat) c', (c :: cs)[i]? = some c' → ∃ u, w.cell? ⟨B2, o2 + i, none⟩ = some u ∧ Rep w F c' u E0 := by
          intro i c' hi
          rw [← hcs] at hi
          obtain ⟨y, h3, h4⟩ := (flatC_get _ honet i c').1 hi
          rw [List.getElem?_take] at h3
          split at h3
          · obtain ⟨u, S, k1, k2⟩ := e5 i y h3 0 c' h4
            refine ⟨u, by simpa using k1, k2.stor ?_⟩
            exact (storE_spec (List.all_eq_true.1 c1 y (List.mem_of_getElem? h3))).2 c' (List.mem_of_getElem? h4)
          · simp at h3
        let vs : List Value := (List.range (c :: cs).length).map fun i => (w.cell? ⟨B2, o2 + i, none⟩).getD undef
        have hvl : vs.length = (c :: cs).length := by simp [vs]
        have hvg : ∀ (i : Nat) v, vs[i]? = some v → ∃ c', (c :: cs)[i]? = some c' ∧ w.cell? ⟨B2, o2 + i, none⟩ = some v ∧ Rep w F c' v E0 := by
          intro i v hi
          have hlt : i < (c :: cs).length := by rw [← hvl]; exact (List.getElem?_eq_some_iff.1 hi).1
          obtain ⟨u, k1, k2⟩ := hget i _ (List.getElem?_eq_getElem hlt)
          have : vs[i]? = some u := by simp only [vs, List.getElem?_map, List.getElem?_range hlt, Option.map_some, k1, Option.getD_some]
          rw [this] at hi
          obtain rfl := Option.some.inj hi
          exact ⟨_, List.getElem?_eq_getElem hlt, k1, k2⟩
        obtain ⟨B', o', m1, m2, m3, m4⟩ := h.putLeaf hx hz' c3 (j := p.j) (cs := c :: cs) (vs := vs) hvl (by omega) (by simp) (by
          intro i c' v hi hv'
          obtain ⟨c2', k1, k2, k3⟩ := hvg i v hv'
          rw [hi] at k1
          obtain rfl := Option.some.inj k1
          exact k3)
        rw [l1] at m1
        simp only [Option.some.injEq, RLoc.mem.injEq] at m1
        obtain ⟨rfl, rfl⟩ := m1
        have hr := run_copy_cells (P := P) w t ty o.type e B (o0 + p.j) dl cap ⟨B2, o2, none⟩ ys.length cap2 vs hu hs (by rw [hvl, hlen])
          (fun j v hj => by
            obtain ⟨_, _, k2, _⟩ := hvg j v hj
            rw [add_plain']; exact k2)
          (fun j hj => by have := (m2 (p.j + j) (by omega)).1; rwa [← Nat.add_assoc] at this) (fun j hj => by have := (m2 (p.j + j) (by omega)).2; rwa [← Nat.add_assoc] at this)
          (fun v hv' => by
            obtain ⟨i, hi⟩ := List.getElem?_of_mem hv'
            obtain ⟨_, _, _, k3⟩ := hvg i v hi
            exact k3.one)
        rw [← hao, ← l2, ← e1] at hr
        simp only [Oper.wp, hexec _ _ hr, Oper.upon, hd]
        rw [← hao] at m3 m4
        refine ⟨F, env, _, hk, m3.set hdn ?_, m4⟩
        rw [hvl]
        exact Rep.v rfl fun _ _ h => h
    · simp at hst
  · simp at hst
end
end Go.Proofs.YthlehngbadianaaDoor.Ow
