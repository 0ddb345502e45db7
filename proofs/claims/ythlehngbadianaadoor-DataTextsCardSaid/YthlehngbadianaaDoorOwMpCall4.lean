/- Maps: the root that stands for one; how it is made, and lent. -/
import Derived.Test.YthlehngbadianaaDoorOwLend2
import Derived.MapKept
import GoSem.Instr.MakeMap
set_option linter.unusedVariables false
set_option linter.unusedSimpArgs false
set_option linter.unnecessarySimpa false
namespace Go.Proofs.YthlehngbadianaaDoor.Ow
open Go Go.RowKit
/-- The map at b has these keys and values, in the order in which they came. -/
def MapB (b : Nat) (es : List (Value × Value)) : World → Fp → Value → Fp → Prop := fun w F u T =>
  u = .map (some b) ∧ (∃ (ents : Array MapEntry) (clock : Nat), w.heap[b]? = some (.map ents clock) ∧ ents.toList.map (fun e => (e.key, e.val)) = es ∧ MapKept.Stamped ents clock) ∧ ∀ b' a, T b' a ↔ b' = b
theorem at_obj {w : World} {b a : Nat} {x : Obj} (h : at? w b a = some (.o x)) : w.heap[b]? = some x := by
  unfold at? at h
  split at h
  · rename_i c e fz hx
    cases hc : c[a]? <;> simp [hc] at h
  · rename_i y hx hy
    simp only [Option.some.injEq, At.o.injEq] at h
    rw [hy, h]
  · simp at h
theorem MapB.keep {w w' : World} {F F' T : Fp} {b : Nat} {es : List (Value × Value)} {u : Value} (h : MapB b es w F u T) (k : Kp w F w' F' T) : MapB b es w' F' u T := by
  obtain ⟨h1, ⟨ents, clock, h2, h3, h4⟩, h5⟩ := h
  obtain ⟨⟨M, a1, a2, a3⟩, a4⟩ := k
  refine ⟨h1, ⟨ents, clock, ?_, h3, h4⟩, h5⟩
  have hlt : b < w.heap.size := by
    rcases Nat.lt_or_ge b w.heap.size with h' | h'
    · exact h'
    · simp [Array.getElem?_eq_none h'] at h2
  have h6 := a1.at_ b 0 hlt (a3 b 0 ((h5 b 0).2 rfl))
  have h7 : at? w b 0 = some (.o (.map ents clock)) := by unfold at?; rw [h2]
  rw [h7] at h6
  exact at_obj h6
theorem MapB.rep {w : World} {F T : Fp} {b : Nat} {es : List (Value × Value)} {u : Value} (h : MapB b es w F u T) : Rep w F (.ext (MapB b es)) u T :=
  .ext (by rw [h.1]; rfl) fun w' F' k => h.keep k
theorem MapB.of {w : World} {F T : Fp} {b : Nat} {es : List (Value × Value)} {u : Value} (h : Rep w F (.ext (MapB b es)) u T) : MapB b es w F u T := by
  cases h with
  | ext h1 hI => exact hI w F (Kp.refl _ _ _)
section
variable {P : Program} {n : Nat} {st : St}
def mpNew (d b : Nat) (st : St) : St := (st.new (2000 + d) (.ext (MapB b []))).set d (.v (.map (some b)))
theorem AOp_mkMap {o : Oper} {t : TypeId} {d : Nat} {K : Post} (hop : o.op = .makeMap t none) (hd : o.dst = some d) (hdn : d < n) (hn : n ≤ 1000) (hk : ∀ b, K (mpNew d b st)) : AOp P n o st K := by
  intro w F env a h
  have hexec : (execOp a.eval o).run P w = .ok (.value (.map (some w.heap.size))) (w.alloc (.map #[] 0)) := by
    unfold execOp
    simp [hop, Instr.makeMap, newObj]
    rfl
  simp only [Oper.wp, hexec, Oper.upon, hd]
  have hbel : Below w.heap.size w (w.alloc (.map #[] 0)) := (Below.refl _ _).alloc (Nat.le_refl _) _
  have hm : MapB w.heap.size [] (w.alloc (.map #[] 0)) (fun b a => F b a ∨ b = w.heap.size) (.map (some w.heap.size)) (fun b a => b = w.heap.size) :=
    ⟨rfl, ⟨#[], 0, heap_alloc_new w _, rfl, MapKept.stamped_empty 0⟩, fun _ _ => Iff.rfl⟩
  obtain ⟨k1, k2⟩ := h.newRoot hbel (r := 2000 + d) (pin_loc hdn hn 1 (by omega)) (x := .ext (MapB w.heap.size [])) (l := .val (.map (some w.heap.size))) (S := fun b a => b = w.heap.size) (by rintro b a rfl; simp) ⟨rfl, hm.rep⟩ ⟨fun h => by simp [VB] at h; omega, fun _ => ⟨_, rfl⟩⟩
  have k3 := k1.set (v := .map (some w.heap.size)) hdn (x := .v (.map (some w.heap.size))) (Rep.v rfl fun _ _ h => h)
  exact ⟨_, _, _, hk _, k3, k2⟩
def plugE (st : St) (g : Nat) (t' : AV) : St := ⟨cutSl (notR g) st.sl, st.rt.set g t', cutRf (notR g) (st.rf.filter fun _ => true)⟩
theorem lend_ext {w : World} {F : Fp} {env : Nat → RLoc} {a : Act} (h : Rel w F E0 env n a st) {g : Nat} {x0 : AV} (hx : st.rt.get g = some x0) (hg : VB ≤ g) :
    ∃ l0 L, Lend w F env n a st g 9000 x0 l0 L (fun _ => true) (plugE st g) (fun _ => none) (fun _ => false) id := by
  obtain ⟨T, ok, _⟩ := h.ok
  obtain ⟨u0, hu⟩ := (h.kind g _ hx).2 hg
  have hroot := ok.root g _ hx
  rw [hu] at hroot
  refine ⟨.val u0, T g, fun b a ht => ok.sub _ _ _ _ hx ht, hroot, ⟨fun hh => by simp [VB] at hh, fun _ => ⟨_, rfl⟩⟩, ⟨rfl, by decide⟩, ⟨T, ok, fun r x hr hx' b a ht hg' => hr (ok.dis _ _ _ _ _ _ hx' hx ht hg')⟩, ?_, ?_⟩
  · intro x u Fc envc Mc hi; simp at hi
  · intro w' F' X M T'' t' _ hroot' k3 k4 k5 k6 k7 k8 k9 k10 k11
    have hM : Agree (fun b a => b < w.heap.size ∧ M b a) w w' := k3.mono fun b a hb hm => ⟨hb, hm⟩
    have hk : ∀ r x, r ≠ g → st.rt.get r = some x → Kp w F w' F' (T r) := fun r x hr hx' => ⟨⟨_, hM, fun b a hm => ok.sub _ _ _ _ hx (k4 b a hm.1 hm.2), fun b a ht hm => hr (ok.dis _ _ _ _ _ _ hx' hx ht (k4 b a hm.1 hm.2))⟩, k5⟩
    have h0 : Kp w F w' F' E0 := ⟨⟨_, hM, fun b a hm => ok.sub _ _ _ _ hx (k4 b a hm.1 hm.2), fun _ _ h => h.elim⟩, k5⟩
    have hgs : ∀ r x, (st.rt.set g t').get r = some x → (r = g ∧ x = t') ∨ (r ≠ g ∧ st.rt.get r = some x) := by
      intro r x hh
      rw [Al.get_set] at hh
      split at hh
      · rename_i e; exact .inl ⟨e, (Option.some.inj hh).symm⟩
      · rename_i e; exact .inr ⟨e, hh⟩
    have hnew : ∀ r x b a, r ≠ g → st.rt.get r = some x → T r b a → ¬ T'' b a := by
      intro r x b a hr hx' ht ht2
      rcases k10 b a ht2 with h1 | h1
      · exact hr (ok.dis _ _ _ _ _ _ hx' hx ht h1)
      · have := ok.fb b a (ok.sub _ _ _ _ hx' ht); omega
    have hokx : OkX w' F' X env (st.rt.set g t') := by
      refine ⟨⟨fun r => if r = g then T'' else T r, ⟨?_, ?_, ?_, k9⟩, ?_⟩, k8, ?_⟩
      · intro r x hx'
        rcases hgs r x hx' with ⟨rfl, rfl⟩ | ⟨e, hx''⟩
        · simp only [if_true, hu]; exact hroot'
        · simp only [e, if_false]; exact (ok.root r x hx'').keep (hk r x e hx'')
      · intro r1 r2 x1 x2 b a h1 h2 t1 t2
        rcases hgs _ _ h1 with ⟨rfl, rfl⟩ | ⟨e1, h1'⟩ <;> rcases hgs _ _ h2 with ⟨rfl, rfl⟩ | ⟨e2, h2'⟩
        · rfl
        · simp only [if_true, e2, if_false] at t1 t2; exact absurd t1 (hnew _ _ _ _ e2 h2' t2)
        · simp only [if_true, e1, if_false] at t1 t2; exact absurd t2 (hnew _ _ _ _ e1 h1' t1)
        · simp only [e1, e2, if_false] at t1 t2; exact ok.dis _ _ _ _ _ _ h1' h2' t1 t2
      · intro r x b a hx' ht
        rcases hgs _ _ hx' with ⟨rfl, rfl⟩ | ⟨e, hx''⟩
        · simp only [if_true] at ht; exact k7 b a ht
        · simp only [e, if_false] at ht; exact k6 b a (ok.sub _ _ _ _ hx'' ht) fun hg' => e (ok.dis _ _ _ _ _ _ hx'' hx ht hg')
      · intro r x b a hx' ht hX
        rcases hgs _ _ hx' with ⟨rfl, rfl⟩ | ⟨e, hx''⟩
        · simp only [if_true] at ht; exact (k11 b a hX).2 ht
        · simp only [e, if_false] at ht
          rcases (k11 b a hX).1 with h1 | h1
          · exact e (ok.dis _ _ _ _ _ _ hx'' hx ht h1)
          · have := ok.fb b a (ok.sub _ _ _ _ hx'' ht); omega
      · intro r x hx'
        rcases hgs _ _ hx' with ⟨rfl, rfl⟩ | ⟨e, hx''⟩
        · exact h.kind r _ hx
        · exact h.kind r x hx''
    have hgd : ∀ r x, (st.rt.del g).get r = some x → r ≠ g ∧ st.rt.get r = some x := by
      intro r x hh
      rw [Al.get_del] at hh
      split at hh
      · simp at hh
      · rename_i e; exact ⟨e, hh⟩
    have hl1 : Lives w F env st.rt w' F' env (st.rt.set g t') (notR g) := by
      have l1 := Lives.del (w := w) (F := F) (env := env) (rt := st.rt) g
      have l2 := Lives.world (ok.del g) (w' := w') (F' := F') (fun r x hx' => hk r x (hgd r x hx').1 (hgd r x hx').2) h0
      have l3 := Lives.come (w := w') (F := F') (env := env) (rt := st.rt.del g) (r := g) (by simp [Al.get_del]) t' (env g)
      rw [show (fun r' => if r' = g then env g else env r') = env by funext r'; split <;> simp_all] at l3
      rw [show (st.rt.del g).set g t' = st.rt.set g t' by simp only [Al.set, Al.del_del]] at l3
      exact ((l1.trans l2).trans l3).mono fun c hc => by simp [hc]
    have hrel := h.move hokx hl1 (fun _ => true) (by
      intro e he _
      obtain ⟨B, o, u, e1, ⟨x1, e2, e3⟩, e4, e5⟩ := h.rf e he
      have hne : e.1 ≠ g := fun hh => by rw [hh, hu] at e1; cases e1
      refine ⟨fun x h1 h2 => ⟨x, by rw [Al.get_set, if_neg hne]; exact h1, h2⟩, rfl, ?_⟩
      intro B' o' u' h1 h2
      have hr := ok.root _ x1 e2
      rw [e1] at h1 hr
      obtain ⟨rfl, rfl⟩ : B = B' ∧ o = o' := by simpa using h1
      obtain ⟨u2, S, k1, k2, _⟩ := Nd.cell hr (List.getElem?_eq_getElem e3)
      exact (hk _ x1 hne e2).cell h2 (.inl k2))
    refine ⟨hrel, ?_⟩
    intro x1 u Mc envc hMc he hv
    have junk : ∀ (rt : Al), LR1 w' F' env rt .junk u := fun rt => Rep.junk hv.one fun _ _ h => h
    cases x1 <;> simp only [trG] <;> first | exact junk _ | exact hv
end
end Go.Proofs.YthlehngbadianaaDoor.Ow
namespace Go.Proofs.YthlehngbadianaaDoor.Ow
open Go Go.RowKit
def rfT (a b : Nat) : AV → Option AV
  | .ref q => if q.r = a ∧ q.path = [] then some (.ref ⟨b, [], q.j⟩) else none
  | .sa q es len cap => if q.r = a ∧ q.path = [] then some (.sa ⟨b, [], q.j⟩ es len cap) else none
  | _ => none
def rfC (b j : Nat) (l : Rfs) : Option AV → Rfs
  | some y => (b, j, y) :: l
  | none => l
def rfMove (a b : Nat) : Rfs → Rfs
  | [] => []
  | (r, j, x) :: l => if r = a then rfC b j (rfMove a b l) (rfT a b x) else rfMove a b l
theorem rfMove_mem {a b : Nat} : ∀ (l : Rfs) (e : Nat × Nat × AV), e ∈ rfMove a b l → ∃ j x y, (a, j, x) ∈ l ∧ rfT a b x = some y ∧ e = (b, j, y)
  | [], e, h => by simp [rfMove] at h
  | (r, j, x) :: l, e, h => by
    simp only [rfMove] at h
    split at h
    · rename_i hr
      subst hr
      cases hx : rfT r b x with
      | none =>
        rw [hx] at h
        obtain ⟨j', x', y, h1, h2⟩ := rfMove_mem l e h
        exact ⟨j', x', y, List.mem_cons_of_mem _ h1, h2⟩
      | some y =>
        rw [hx] at h
        simp only [rfC, List.mem_cons] at h
        rcases h with rfl | h
        · exact ⟨j, x, y, List.mem_cons_self, hx, rfl⟩
        · obtain ⟨j', x', y, h1, h2⟩ := rfMove_mem l e h
          exact ⟨j', x', y, List.mem_cons_of_mem _ h1, h2⟩
    · obtain ⟨j', x', y, h1, h2⟩ := rfMove_mem l e h
      exact ⟨j', x', y, List.mem_cons_of_mem _ h1, h2⟩
theorem rloc_nil {w : World} {env : Nat → RLoc} {rt : Al} {r B o : Nat} {x : AV} (hx : rt.get r = some x) (he : env r = .mem B o) : rloc w env rt r [] = some (.mem B o) := by
  have e : hopLoc (.obj x) (ptrTo B o) 0 = some (B, o) := rfl
  simp only [rloc, hx, he, Option.bind_some, ploc, e, Option.map_some]
theorem rfMove_ok {w : World} {F F' : Fp} {env env' : Nat → RLoc} {rt rt' : Al} {a b B o : Nat} {t t' : AV} {l : Rfs} (h : ∀ e ∈ l, RfOk w F env rt e) (ha : env a = .mem B o) (hb : env' b = .mem B o) (hra : rt.get a = some t) (hrb : rt'.get b = some t') (hl : t'.cells.length = t.cells.length) :
    ∀ e ∈ rfMove a b l, RfOk w F' env' rt' e := by
  intro e he
  obtain ⟨j, x, y, h1, h2, rfl⟩ := rfMove_mem l e he
  obtain ⟨B1, o1, u, k1, ⟨x1, k2, k3⟩, k4, k5⟩ := h _ h1
  simp only at k1 k2 k3 k4 k5
  rw [ha] at k1
  simp only [RLoc.mem.injEq] at k1
  obtain ⟨rfl, rfl⟩ := k1
  rw [hra] at k2
  obtain rfl := Option.some.inj k2
  have l1 := rloc_nil (w := w) hra ha
  have l2 := rloc_nil (w := w) hrb hb
  refine ⟨B, o, u, hb, ⟨t', hrb, by simp only; omega⟩, k4, ?_⟩
  cases x <;> simp only [rfT] at h2 <;> first | (simp at h2; done) | skip
  case ref q =>
    split at h2
    · rename_i hq
      obtain rfl := Option.some.inj h2
      obtain ⟨B1, o1, m1, m2⟩ := k5
      rw [hq.1, hq.2, l1] at m1
      simp only [Option.some.injEq, RLoc.mem.injEq] at m1
      obtain ⟨rfl, rfl⟩ := m1
      exact ⟨_, _, l2, m2⟩
    · simp at h2
  case sa q es len cap =>
    split at h2
    · rename_i hq
      obtain rfl := Option.some.inj h2
      obtain ⟨B1, o1, ao, m1, m2⟩ := k5
      rw [hq.1, hq.2, l1] at m1
      simp only [Option.some.injEq, RLoc.mem.injEq] at m1
      obtain ⟨rfl, rfl⟩ := m1
      exact ⟨_, _, ao, l2, m2⟩
    · simp at h2
def addRf (l : Rfs) (st : St) : St := ⟨st.sl, st.rt, l ++ st.rf⟩
def callRQ (dst : Option Nat) (xs : List AV) (g : Nat) (len : Nat) (plug : AV → St) (m : Pl → Option Pl) (isL : AV → Bool) (K : Post) (r : AV) (M' : Al) (rf' : Rfs) : Prop :=
  ∃ t', M'.get 0 = some t' ∧ (t'.cells.length == len) = true ∧ ((xs.all fun x => noR x || isL x) || ((parts r).all plainT && plainT t')) = true ∧ ∃ st', land dst (trR m r) (addRf (rfMove 0 g rf') (plug t')) = some st' ∧ K st'
section
variable {P : Program} {n : Nat} {st : St}
theorem AOp_callR {o : Oper} {f : FuncId} {fn : Func} {args : Array Operand} {ats : Array TypeId} {K : Post} {l : List Opd} {xs : List AV} (hop : o.op = .call { callee := .value (.func f), args, argTypes := ats })
    (hf : P.funcs[f]? = some fn) (hname : (fn.name == "runtime.NumGoroutine") = false) (hb : fn.body.isNone = false) (hdn : ∀ d, o.dst = some d → d < n) (hn : n ≤ 1000) (hl : l.map Opd.to = args.toList) (hargs : evs st l = some xs) (hnt : xs.all ntup = true)
    {g : Nat} {t : AV} (hg : st.rt.get g = some t) (hm : g < VB)
    (hc : ACallsR P f [(0, t)] (rfMove g 0 st.rf) (xs.map (lvA g st (isLN g []) lvN)) (callRQ o.dst xs g t.cells.length (plugN st g t [] t.cells.length) (mapN g []) (isLN g []) K)) : AOp P n o st K := by
  intro w F env a h
  have hrun := run_call (P := P) (a := a) (w := w) hop hf hname hb
  simp only [Oper.wp, hrun, Oper.upon]
  obtain ⟨hlen, hv⟩ := evs_spec h _ _ hargs
  obtain ⟨B0, o0, L, hL⟩ := lend_node h hg (show t.sub [] = some t from rfl) (fun _ => hm)
  have he0 : env g = .mem B0 o0 := by
    obtain ⟨B1, o1, he⟩ := (h.kind g t hg).1 hm
    have h1 := hL.arg (.ref ⟨g, [], 0⟩) (.pointer (some ⟨B1, o1 + 0, none⟩)) F (fun r => .mem B0 o0) [(0, t)] (by simp [isLN]) ⟨B1, o1, rloc_nil hg he, rfl⟩ rfl rfl
    obtain ⟨B2, o2, k1, k2⟩ := h1
    have k3 := rloc_nil (w := w) (rt := [(0, t)]) (env := fun _ => RLoc.mem B0 o0) (r := 0) (x := t) rfl rfl
    simp only [lvN] at k1 k2
    rw [k3] at k1
    simp only [Option.some.injEq, RLoc.mem.injEq] at k1
    obtain ⟨rfl, rfl⟩ := k1
    simp only [Value.pointer.injEq, Option.some.injEq, Addr.mk.injEq, Nat.add_zero, and_true] at k2
    rw [he, k2.1, k2.2]
  obtain ⟨T, ok, hoff⟩ := hL.off
  have hsv1 : ∀ (i : Nat) x, xs[i]? = some x → ∃ u, (args.map a.eval)[i]? = some u ∧ SV1 w F env st.rt x u := by
    intro i x hx
    obtain ⟨ox, h1, h2⟩ := hv i x hx
    refine ⟨_, by rw [opds_map hl, h1]; rfl, ?_⟩
    have := List.all_eq_true.1 hnt x (List.mem_of_getElem? hx)
    cases x <;> first | exact h2 | simp [ntup] at this
  have hsize : (args.map a.eval).size = (xs.map (lvA g st (isLN g []) lvN)).length := by
    rw [Array.size_map, List.length_map, ← hlen, ← Array.length_toList, ← hl, List.length_map]
  have hgetM : ∀ I r x, (lentTo [(0, t)] I).get r = some x → (r = 0 ∧ x = t) ∨ (r ≠ 0 ∧ r = HID ∧ x = .ext I) := by
    intro I r x hx
    simp only [lentTo, List.cons_append, List.nil_append, Al.get] at hx
    split at hx
    · rename_i e; left; exact ⟨e.symm, (Option.some.inj hx).symm⟩
    · rename_i e
      split at hx
      · rename_i e2; right; exact ⟨fun h => e h.symm, e2.symm, (Option.some.inj hx).symm⟩
      · simp at hx
  have main : ∀ Fc : Fp, (∀ b a, Fc b a → F b a) → (∀ b a, L b a → Fc b a) → (∀ (i : Nat) x env' M, xs[i]? = some x → isLN g [] x = false → ∃ u, (args.map a.eval)[i]? = some u ∧ SV1 w Fc env' M (vw (some g) st x) u) → RootOk w Fc t (.mem B0 o0) L →
      (∀ r M' rf' t', callRQ o.dst xs g t.cells.length (plugN st g t [] t.cells.length) (mapN g []) (isLN g []) K r M' rf' → M'.get 0 = some t' → (∀ b a, F b a → Fc b a) ∨ ((parts r).all plainT = true ∧ plainT t' = true)) →
      Calls P f (args.map a.eval) w (fun e w'' => ∃ v, e = .returned v ∧ Good n w F env K (a.put o.dst v) w'') := by
    intro Fc hFc hLc hargs' hroot hmode
    let I := keptI w Fc (fun b a => Fc b a ∧ ¬ L b a)
    let envc : Nat → RLoc := fun r => if r = 0 then .mem B0 o0 else .val (.bool false)
    have hokc : OkX w Fc E0 envc (lentTo [(0, t)] I) := by
      refine ⟨⟨fun r => if r = 0 then L else (fun b a => Fc b a ∧ ¬ L b a), ⟨?_, ?_, ?_, fun b a hh => ok.fb b a (hFc b a hh)⟩, fun _ _ _ _ _ _ h => h⟩, fun _ _ h => h.elim, ?_⟩
      · intro r x hx
        rcases hgetM I r x hx with ⟨rfl, rfl⟩ | ⟨e, rfl, rfl⟩
        · simp only [envc, if_true]; exact hroot
        · simp only [envc, e, if_false]; exact ⟨rfl, keptI_rep _ _ _⟩
      · intro r r' x x' b a hx hx' ht ht'
        rcases hgetM I r x hx with ⟨rfl, rfl⟩ | ⟨e, rfl, rfl⟩ <;> rcases hgetM I r' x' hx' with ⟨rfl, rfl⟩ | ⟨e', rfl, rfl⟩
        · rfl
        · simp only [if_true, e', if_false] at ht ht'; exact absurd ht ht'.2
        · simp only [if_true, e, if_false] at ht ht'; exact absurd ht' ht.2
        · rfl
      · intro r x b a hx hh
        rcases hgetM I r x hx with ⟨rfl, rfl⟩ | ⟨e, rfl, rfl⟩
        · simp only [if_true] at hh; exact hLc b a hh
        · simp only [e, if_false] at hh; exact hh.1
      · intro r x hx
        rcases hgetM I r x hx with ⟨rfl, rfl⟩ | ⟨e, rfl, rfl⟩
        · simp only [envc, if_true]; exact hL.kind
        · simp only [envc, e, if_false]; exact ⟨fun hh => by simp [HID, VB] at hh, fun _ => ⟨_, rfl⟩⟩
    have hg0 : (lentTo [(0, t)] I).get 0 = some t := by simp [lentTo, Al.get]
    have hcalls := hc I w Fc envc (args.map a.eval) hokc hsize (by
      intro i x hx
      rw [List.getElem?_map, Option.map_eq_some_iff] at hx
      obtain ⟨y, hy, rfl⟩ := hx
      unfold lvA
      have sv : ∀ x u, SV1 w Fc envc (lentTo [(0, t)] I) x u → SV w Fc envc (lentTo [(0, t)] I) x u := by
        intro x u h; cases x <;> first | exact h | exact h.elim
      cases hi : isLN g [] y with
      | true =>
        obtain ⟨u, h1, h2⟩ := hsv1 i y hy
        refine ⟨u, h1, ?_⟩
        simp only [if_true]
        exact sv _ _ (hL.arg y u _ _ _ hi h2 hg0 (by simp [envc]))
      | false =>
        obtain ⟨u, h1, h2⟩ := hargs' i y envc (lentTo [(0, t)] I) hy hi
        refine ⟨u, h1, ?_⟩
        simp only [Bool.false_eq_true, if_false]
        exact sv _ _ h2)
    refine (hcalls (rfMove_ok h.rf he0 (by simp [envc]) hg hg0 rfl)).mono ?_
    rintro e w' ⟨v, rfl, r, M', F', env', Xc, rf', hh, hq, hok', hres, htr, hrf'⟩
    obtain ⟨haft, hTL, hmode1⟩ := after_call (L := L) ok.fb hLc hFc hok' hh
    have hq' := hq
    obtain ⟨t', q1, q2, q3, st', q4, q5⟩ := hq
    have hget0 : M'.get 0 = some t' := by
      rw [Al.get_del] at q1
      split at q1
      · simp at q1
      · exact q1
    have henv0 : env' 0 = .mem B0 o0 := by rw [htr.env 0 hL.pin.1]; simp [envc]
    obtain ⟨M, hm1, hm2⟩ := haft.ex
    obtain ⟨⟨T', ok', hX'⟩, hXF', hkind'⟩ := id hok'
    have hroot' := ok'.root _ _ hget0
    rw [henv0] at hroot'
    have hmode' := hmode r _ rf' t' hq' q1
    have hrootB : RootOk w' (Behind F L F') t' (.mem B0 o0) (T' 0) := by
      rcases hmode' with hm | hm
      · rw [hmode1 hm]; exact hroot'
      · exact hroot'.plainF hm.2
    obtain ⟨hrel, href⟩ := hL.plug w' (Behind F L F') Xc M (T' 0) t' q2 hrootB hm1 (fun b a _ hm => hm2 b a hm) haft.fr (fun b a hf hl => .inr ⟨hf, hl⟩) (fun b a ht => .inl (ok'.sub _ _ b a hget0 ht)) (fun b a hx => .inl (hXF' b a hx)) haft.fb
      (fun b a ht => hTL T' ok' 0 t' hL.pin.2 hget0 b a ht) (fun b a hx => ⟨haft.x b a hx, fun ht => hX' _ _ b a hget0 ht hx⟩)
    have hplug : (plugN st g t [] t.cells.length t').rt.get g = some t' := by simp [plugN, St.setC, Al.get_set, AV.setSub]
    have hrel2 := hrel.addRf (rfMove 0 g rf') (rfMove_ok hrf' henv0 he0 hget0 hplug rfl)
    have hres' : Res w' (Behind F L F') env (plugN st g t [] t.cells.length t').rt (trR (mapN g []) r) v Xc := by
      have hstep : ∀ y u S, y ∈ parts r → Comp w' F' env' M' y u S → Comp w' (Behind F L F') env (plugN st g t [] t.cells.length t').rt (trP (mapN g []) y) u S := by
        intro y u S hy hcomp
        have hcomp' : Comp w' (Behind F L F') env' M' y u S := by
          rcases hmode' with hm | hm
          · rw [hmode1 hm]; exact hcomp
          · exact hcomp.plainF (List.all_eq_true.1 hm.1 y hy)
        unfold Comp at hcomp' ⊢
        cases ho : owned y with
        | true =>
          rw [trP_owned (mapN g []) ho]
          rw [if_pos ho] at hcomp'
          rw [if_pos ho]; exact hcomp'
        | false =>
          have ho' : ¬ owned y = true := by simp [ho]
          rw [if_neg ho'] at hcomp'
          rw [if_neg (by simp [trP_owned' (mapN g []) ho])]
          exact trP_sv (fun x u hx => href x u M' env' hget0 henv0 hx) hcomp'
      by_cases ht : ∃ ys, r = .tup ys
      · obtain ⟨ys, rfl⟩ := ht
        obtain ⟨us, h1, h2, S, h3, h4, h5⟩ := hres
        refine ⟨us, h1, by simp [h2], S, ?_, h4, h5⟩
        intro i x u hx hu
        rw [List.getElem?_map, Option.map_eq_some_iff] at hx
        obtain ⟨y, hy, rfl⟩ := hx
        exact hstep y u _ (List.mem_of_getElem? hy) (h3 i y u hy hu)
      · have hr' : ∃ S, Comp w' F' env' M' r v S ∧ ∀ b a, S b a → Xc b a := by cases r <;> first | exact hres | exact absurd ⟨_, rfl⟩ ht
        have hp : parts r = [r] := by cases r <;> first | rfl | exact absurd ⟨_, rfl⟩ ht
        obtain ⟨S, h1, h2⟩ := hr'
        have h3 := hstep r v S (by rw [hp]; simp) h1
        have h4 := trP_tup (mapN g []) (y := r) (fun ys e => ht ⟨ys, e⟩)
        have e : trR (mapN g []) r = trP (mapN g []) r := by cases r <;> first | rfl | exact absurd ⟨_, rfl⟩ ht
        rw [e]
        generalize trP (mapN g []) r = y at h3 h4
        cases y <;> first | exact ⟨S, h3, h2⟩ | exact absurd rfl (h4 _)
    obtain ⟨F2, env2, g1, g2⟩ := land_sound hrel2 hdn hn hres' q4
    exact ⟨v, rfl, F2, env2, st', q5, g1, (Tr.mk (haft.kp hL.sub) fun _ _ => rfl).trans g2⟩
  suffices hh : Calls P f (args.map a.eval) w (fun e w'' => ∃ v, e = .returned v ∧ Good n w F env K (a.put o.dst v) w'') by
    refine hh.mono ?_
    rintro e w'' ⟨v, rfl, hg⟩
    exact hg
  by_cases hp : (xs.all fun x => noR x || isLN g [] x) = true
  · refine main F (fun _ _ h => h) hL.sub ?_ hL.root (fun _ _ _ _ _ _ => .inl fun _ _ h => h)
    intro i x env' M hx hi
    obtain ⟨u, h1, h2⟩ := hsv1 i x hx
    refine ⟨u, h1, ?_⟩
    have h3 := List.all_eq_true.1 hp x (List.mem_of_getElem? hx)
    simp only [hi, Bool.or_false] at h3
    rw [noR_vw h3]
    exact noR_sv h3 h2 (fun _ _ h => h)
  · refine main L hL.sub (fun _ _ h => h) ?_ ?_ (fun r M' rf' t' hq hg => .inr (by
      obtain ⟨t2, q1, q2, q3, _⟩ := hq
      rw [hg] at q1
      obtain rfl := Option.some.inj q1
      rw [Bool.or_eq_true, Bool.and_eq_true] at q3
      exact q3.resolve_left hp))
    · intro i x env' M hx hi
      obtain ⟨u, h1, h2⟩ := hsv1 i x hx
      exact ⟨u, h1, vw_sound ok ⟨hL.sub, fun r x hr hx b a ht => hoff r x (fun e => hr (by rw [e])) hx b a ht⟩ h2⟩
    · exact hL.root.keep ⟨⟨E0, Agree.refl _ _, fun _ _ h => h.elim, fun _ _ _ h => h⟩, fun b a hh => .inl (hL.sub b a hh)⟩
end
end Go.Proofs.YthlehngbadianaaDoor.Ow
