/- append, slice literals, stores: the rules. -/
import Derived.Test.YthlehngbadianaaDoorOwOps5
set_option linter.unusedVariables false
set_option linter.unusedSimpArgs false
set_option linter.unnecessarySimpa false
namespace Go.Proofs.YthlehngbadianaaDoor.Ow
open Go Go.RowKit
section
variable {P : Program} {w : World} {F X : Fp} {env : Nat → RLoc} {n : Nat} {a : Act} {st : St} {rt : Al}
/-- The world goes on, and a root comes that lies in what is new or was reserved. -/
theorem Rel.newRootX (h : Rel w F X env n a st) {w' : World} {M : Fp} (hM : Agree M w w') (hMX : ∀ b a, b < w.heap.size → M b a → X b a) {r : Nat} (hr : pin r = false) {x : AV} {l : RLoc} {S : Fp} (hS : ∀ b a, S b a → X b a ∨ (w.heap.size ≤ b ∧ b < w'.heap.size)) (hx : RootOk w' (fun b a => F b a ∨ S b a) x l S)
    (hl : (r < VB → ∃ B o, l = .mem B o) ∧ (VB ≤ r → ∃ u, l = .val u)) :
    Rel w' (fun b a => F b a ∨ S b a) E0 (fun r' => if r' = r then l else env r') n a (st.new r x) ∧ Tr w F env w' (fun b a => F b a ∨ S b a) (fun r' => if r' = r then l else env r') := by
  obtain ⟨T, ok, _⟩ := h.ok
  obtain ⟨Tr, h1, h2, h3⟩ := h.drop r
  have hfr : ∀ b a, F b a ∨ S b a → F b a ∨ w.heap.size ≤ b := by
    intro b a hh
    rcases hh with hh | hh
    · exact .inl hh
    · rcases hS b a hh with h5 | h5
      · exact .inl (h.xsub _ _ h5)
      · exact .inr h5.1
  have hfb : ∀ b a, F b a ∨ S b a → b < w'.heap.size := by
    intro b a hh
    rcases hh with hh | hh
    · exact Nat.lt_of_lt_of_le (ok.fb b a hh) hM.size
    · rcases hS b a hh with h5 | h5
      · exact Nat.lt_of_lt_of_le (ok.fb b a (h.xsub _ _ h5)) hM.size
      · exact h5.2
  have h4 := h3.world (F' := fun b a => F b a ∨ S b a) (X' := S) hM (fun b a hb hm => .inl (hMX b a hb hm)) hfr (fun _ _ hh _ => .inl hh) (fun _ _ hh => .inr hh) (fun b a hh => (hS b a hh).imp .inl fun hh => hh.1) hfb
  have hg : (st.drop r).rt.get r = none := by simp [St.drop, Al.get_del]
  have hM' : Agree (fun b a => b < w.heap.size ∧ M b a) w w' := hM.mono fun b a hb hm => ⟨hb, hm⟩
  refine ⟨h4.come hg hx (fun _ _ h => h) (X' := E0) (fun _ _ h => h.elim) hl, ⟨⟨_, hM', fun b a hm => h.xsub _ _ (hMX b a hm.1 hm.2), fun _ _ h => h.elim⟩, hfr⟩, ?_⟩
  intro r' hr'
  simp only [show r' ≠ r by rintro rfl; rw [hr] at hr'; simp at hr', if_false]
/-- A new list in a slot. -/
theorem sl_new' {w' : World} {F' S : Fp} {es r : Nat} {xs : List AV} {u : Value} (hr : Rep w' F' (.own es xs) u S) : SV w' F' (fun r' => if r' = r then .val u else env r') (st.new r (.own es xs)).rt (.sl ⟨r, [], 0⟩ es 0 xs.length) u := by
  refine ⟨.val u, u, xs, by simp only [rloc, St.new_get, Option.bind_some, if_true], by simp [cellAt, St.new_get, AV.cellIn, AV.sub, AV.cells], rfl, by omega, ?_⟩
  cases hr with
  | ownN => exact .inl ⟨rfl, rfl, rfl, rfl⟩
  | own u1 S hes hcap hb hlen hc hr hd ho hS hT => exact .inr ⟨_, _, _, _, _, _, rfl, rfl, hcap, by omega, .inr (by omega)⟩
structure AppInfo (P : Program) (o : Oper) (x y : Operand) (t ty e : TypeId) (z : Value) (es bytes : Nat) (isStr : Bool) : Prop where
  op : o.op = .call { callee := .builtin .append, args := #[x, y], argTypes := #[t, ty] }
  info : MkInfo P t e z es bytes
  kind : if isStr then P.underlying ty = some .string else ∃ e', P.underlying ty = some (.slice e')
theorem AppInfo.exec {o : Oper} {x y : Operand} {t ty e : TypeId} {z : Value} {es bytes : Nat} {isStr : Bool} (hI : AppInfo P o x y t ty e z es bytes isStr) {u : Value} {w' : World}
    (hr : (Builtin.append_ #[t, ty] o.type #[a.eval x, a.eval y]).run P w = .ok u w') : (execOp a.eval o).run P w = .ok (.value u) w' := by
  simp only [execOp, hI.op, resolve, Sem.run_bind, Sem.run_pure, Result.andThen_ok, invoke, builtin]
  simp [hr]
theorem appSrc_info {o : Oper} {args : Array Operand} {ats : Array TypeId} {x y : Operand} {t ty e : TypeId} {z : Value} {es bytes : Nat} {isStr : Bool} (hop : o.op = .call { callee := .builtin .append, args := args, argTypes := ats }) (h1 : args.toList = [x, y]) (h2 : ats.toList = [t, ty])
    (hi : mkInfo P t = some (e, z, es, bytes)) (hk : if isStr = true then P.underlying ty = some .string else ∃ e', P.underlying ty = some (.slice e')) : AppInfo P o x y t ty e z es bytes isStr := by
  obtain rfl : args = #[x, y] := by apply Array.toList_inj.1; rw [h1]
  obtain rfl : ats = #[t, ty] := by apply Array.toList_inj.1; rw [h2]
  exact ⟨hop, mkInfo_spec hi, by simpa using hk⟩
/-- append, base and source apart. -/
theorem app_fin {w0 : World} {F0 : Fp} {env0 : Nat → RLoc} (h : Rel w F X env n a st) (htr : Tr w0 F0 env0 w F env) {o : Oper} {x y : Operand} {t ty e : TypeId} {z : Value} {es bytes d : Nat} {isStr : Bool} {K : Post} (hI : AppInfo P o x y t ty e z es bytes isStr) (hd : o.dst = some d) (hdn : d < n) (hnn : n ≤ 1000)
    {xs ys : List AV} {Sb : Fp} {Sn : Nat → Nat → Fp} {vss : List (List Value)} (hb : Rep w F (.own es xs) (a.eval x) Sb) (hSb : ∀ b a, Sb b a → X b a) (hn : Els w F es ys vss Sn) (hSn : ∀ (i j b a : Nat), Sn i j b a → X b a ∧ ¬ Sb b a)
    (hsrc : Src P es ty (a.eval y) ys.length vss.flatten w) (hlim : (xs.length + ys.length) * bytes ≤ 140737488355328) (h63 : xs.length + ys.length ≤ 9223372036854775807)
    (hk : K ((st.new (2000 + d) (.own es (xs ++ ys))).set d (.sl ⟨2000 + d, [], 0⟩ es 0 (xs ++ ys).length))) : o.wp P a w (fun a' w' => ((∀ b a, ¬ Sb b a) → Below w.heap.size w w') ∧ Good n w0 F0 env0 K a' w') (fun _ _ _ => False) := by
  obtain ⟨i, hi1, hi2, hi3, hi4⟩ := hI.info.parts
  obtain ⟨T, ok, _⟩ := h.ok
  have hlt : ∀ b a, X b a → b < w.heap.size := fun b a hh => ok.fb b a (h.xsub b a hh)
  have key : ∃ u' w', (Builtin.append_ #[t, ty] o.type #[a.eval x, a.eval y]).run P w = .ok u' w' ∧ AppOut w F Sb Sn es (xs ++ ys) u' w' := by
    by_cases hne : ys = []
    · subst hne
      have hfl : vss.flatten = [] := List.eq_nil_of_length_eq_zero (by rw [hn.flen]; simp)
      have hvn : vss = [] := List.eq_nil_of_length_eq_zero (by rw [hn.len]; rfl)
      have hout : AppOut w F Sb Sn es (xs ++ []) (a.eval x) w := by
        rw [List.append_nil]
        refine ⟨Sb, ⟨E0, Agree.refl _ _, fun _ _ _ h => h.elim⟩, fun _ _ h => .inl h, fun F' hF' => hb.keep ⟨⟨E0, Agree.refl _ _, fun _ _ h => h.elim, fun _ _ _ h => h⟩, hF'⟩⟩
      refine ⟨_, _, ?_, hout⟩
      have hsrc' : Src P i.size ty (a.eval y) 0 [] w := by rw [hi3]; rw [hfl] at hsrc; exact hsrc
      generalize hub : a.eval x = ub at hb
      cases hb with
      | ownN =>
        have hc := hsrc'.cells
        have hl := hsrc'.len
        rcases hsrc'.kind with ⟨e', hkk⟩ | hkk <;>
          simp [Builtin.append_, run_underlying hI.info.under, run_underlying hkk, Go.sizeOf, typeInfo, hi1, hi3, hl] <;> (rw [hi3] at hc; simp [hc])
      | own u1 S hes hcap hbk hlen hc hr hd ho hS hT =>
        rename_i B o' cap
        have := run_append_room_src w t ty o.type e i hI.info.under hi1 B o' xs.length cap (a.eval y) 0 [] hsrc' (by omega) (by simp) (by simp)
        simpa [World.setCells] using this
    · exact append_own hI.info.under hi1 hi2 hi3 hI.info.cells hi4 hI.info.pos hb (fun b a hh => h.xsub _ _ (hSb b a hh)) hn (fun i j b a hh => (hSn i j b a hh).2) hsrc hlim h63 hne (fun i j b a hh => hlt b a (hSn i j b a hh).1) (fun b a hh => hlt b a (hSb b a hh))
  obtain ⟨u', w', hrun, ⟨S', ⟨M, hM, hMS⟩, hS', hrep⟩⟩ := key
  simp only [Oper.wp, hI.exec hrun, Oper.upon, hd]
  have hS2 : ∀ b a, S' b a → X b a ∨ (w.heap.size ≤ b ∧ b < w'.heap.size) := by
    intro b a hh
    rcases hS' b a hh with h5 | ⟨i, j, h5⟩ | h5
    · exact .inl (hSb _ _ h5)
    · exact .inl (hSn _ _ _ _ h5).1
    · exact .inr h5
  have hF' : ∀ b a, F b a ∨ S' b a → F b a ∨ w.heap.size ≤ b := by
    intro b a hh
    rcases hh with hh | hh
    · exact .inl hh
    · rcases hS2 b a hh with h5 | h5
      · exact .inl (h.xsub _ _ h5)
      · exact .inr h5.1
  have hr' := hrep _ hF'
  obtain ⟨k1, k2⟩ := h.newRootX hM (fun b a hb hm => hSb _ _ (hMS b a hb hm)) (r := 2000 + d) (pin_loc hdn hnn 1 (by omega)) (x := .own es (xs ++ ys)) (l := .val u') (S := S') hS2 ⟨rfl, hr'⟩ ⟨fun h => by simp [VB] at h; omega, fun _ => ⟨_, rfl⟩⟩
  exact ⟨fun hE => hM.to_below fun b a hb hm => hE _ _ (hMS b a hb hm), _, _, _, hk, k1.set hdn (sl_new' hr'), htr.trans k2⟩
def strAV (s : ByteArray) : List AV := s.data.toList.map fun b => .v (.int .u8 b.toNat)
def srcOf (isStr : Bool) (es : Nat) (st : St) (y : AV) : Option (List AV) :=
  if isStr then match y with
    | .v (.string s) => if es = 1 then some (strAV s) else none
    | _ => none
  else rdS es st y
def St.takeC (st : St) (p : Pl) : St :=
  match st.rt.get p.r with
  | some x => st.setC p.r p.path p.j (p.j + 1) (x.setC p.path p.j .junk)
  | none => st
/-- A list is taken out of where it is owned. -/
def takeL (st : St) (p : Pl) : St := if VB ≤ p.r ∧ p.path = [] then st.drop p.r else st.takeC p
def baseOwn (es : Nat) (st : St) (p : Pl) (off len : Nat) : Option AV → Option (List AV × St)
  | some (.own es' xs) => if es' = es ∧ off + len = xs.length then some (xs.drop off, takeL st p) else none
  | _ => none
def baseSt (es : Nat) (st : St) : AV → Option (List AV × St)
  | .v u => if isNilSl u then some ([], st) else none
  | .sl p es' off len => if es' = es then baseOwn es st p off len (cellAt st.rt p.r p.path p.j) else none
  | _ => none
def appFin (d es bytes : Nat) : Option (List AV × St) → Option (List AV) → Option St
  | some (xs, st1), some ys => if ys.all (storE es) = true ∧ (xs.length + ys.length) * bytes ≤ 140737488355328 ∧ xs.length + ys.length ≤ 9223372036854775807 then some ((st1.new (2000 + d) (.own es (xs ++ ys))).set d (.sl ⟨2000 + d, [], 0⟩ es 0 (xs ++ ys).length)) else none
  | _, _ => none
def app1 (d es bytes : Nat) (isStr : Bool) (st : St) : Option AV → Option AV → Option St
  | some vx, some vy => appFin d es bytes (baseSt es st vx) (srcOf isStr es st vy)
  | _, _ => none
theorem storE_spec {es : Nat} {y : AV} (h : storE es y = true) : y.cells.length = es ∧ ∀ c ∈ y.cells, stor c = true := by
  simp only [storE, Bool.and_eq_true, beq_iff_eq, List.all_eq_true] at h
  exact ⟨h.1.2, h.2⟩
/-- What is appended. -/
theorem Rel.src (h : Rel w F X env n a st) {x : Opd} {y : AV} {isStr : Bool} {es : Nat} {ty : TypeId} {ys : List AV} (hx : st.ev x = some y) (hs : srcOf isStr es st y = some ys)
    (hk : if isStr then P.underlying ty = some .string else ∃ e', P.underlying ty = some (.slice e')) (hall : ys.all (storE es) = true) (hpos : 0 < es) :
    ∃ vss, Src P es ty (a.eval x.to) ys.length vss.flatten w ∧ Els w F es ys vss (fun _ _ => E0) := by
  have hall' : ∀ y ∈ ys, storE es y = true := List.all_eq_true.1 hall
  cases isStr with
  | true =>
    simp only [if_true] at hk
    simp only [srcOf, if_true] at hs
    split at hs
    · rename_i s
      split at hs
      · rename_i he
        subst he
        obtain rfl := Option.some.inj hs
        have hval := (SV_val (h.ev hx)).1
        have hl : (strAV s).length = s.size := by rw [strAV, List.length_map, Array.length_toList]; rfl
        refine ⟨s.data.toList.map fun b => [Value.int .u8 b.toNat], ?_, ?_⟩
        · rw [hval, hl]
          have : (s.data.toList.map fun b => [Value.int .u8 b.toNat]).flatten = byteCells s := by
            simp only [byteCells]
            generalize s.data.toList = l
            induction l with
            | nil => rfl
            | cons b l ih => simp only [List.map_cons, List.flatten_cons, ih]; rfl
          rw [this]
          exact Src.ofString w hk s
        · refine ⟨by simp [strAV], ?_, ?_, ?_, fun _ _ _ _ _ _ h => h.elim, fun _ _ _ _ h => h.elim⟩
          · intro i y hy
            exact (storE_spec (hall' y (List.mem_of_getElem? hy))).1
          · intro vs hvs
            simp only [List.mem_map] at hvs
            obtain ⟨b, _, rfl⟩ := hvs
            rfl
          · intro i y j c v hy hc hv
            simp only [strAV, List.getElem?_map, Option.map_eq_some_iff] at hy
            obtain ⟨b, hb, rfl⟩ := hy
            simp only [List.getElem?_map, hb, Option.map_some, Option.bind_some] at hv
            cases j with
            | succ j => simp at hv
            | zero =>
              simp [AV.cells] at hc hv
              subst hc hv
              exact .v rfl fun _ _ h => h
      · simp at hs
    · simp at hs
  | false =>
    simp only [Bool.false_eq_true, if_false] at hk
    simp only [srcOf, Bool.false_eq_true, if_false] at hs
    obtain ⟨e', he'⟩ := hk
    obtain ⟨ad, cap, hu, hcap, hcase⟩ := h.rd (h.ev hx) hs
    rcases hcase with ⟨rfl, rfl⟩ | ⟨B, o, rfl, hl, hc⟩
    · refine ⟨[], ?_, ⟨rfl, by simp, by simp, by simp, fun _ _ _ _ _ _ h => h.elim, fun _ _ _ _ h => h.elim⟩⟩
      rw [hu]
      cases ad with
      | none => exact Src.ofNil w he' 0
      | some ad => exact Src.ofSlice w he' ad 0 0 [] (by simp) (fun j u hj => by simp at hj) (by simp)
    · let vss : List (List Value) := (List.range ys.length).map fun i => (List.range es).map fun j => (w.cell? ⟨B, o + i * es + j, none⟩).getD undef
      have hget : ∀ i j v, (vss[i]?).bind (·[j]?) = some v → i < ys.length ∧ j < es ∧ v = (w.cell? ⟨B, o + i * es + j, none⟩).getD undef := by
        intro i j v hv
        simp only [vss, List.getElem?_map, Option.bind_eq_some_iff, Option.map_eq_some_iff] at hv
        obtain ⟨vs, ⟨i', hi', rfl⟩, hv⟩ := hv
        rw [List.getElem?_map, Option.map_eq_some_iff] at hv
        obtain ⟨j', hj', rfl⟩ := hv
        have hi := (List.getElem?_eq_some_iff.1 hi').1
        have hj := (List.getElem?_eq_some_iff.1 hj').1
        simp at hi hj
        rw [List.getElem?_range hi] at hi'
        rw [List.getElem?_range hj] at hj'
        obtain rfl := Option.some.inj hi'
        obtain rfl := Option.some.inj hj'
        exact ⟨hi, hj, rfl⟩
      have hels : Els w F es ys vss (fun _ _ => E0) := by
        refine ⟨by simp [vss], fun i y hy => hl y (List.mem_of_getElem? hy), ?_, ?_, fun _ _ _ _ _ _ h => h.elim, fun _ _ _ _ h => h.elim⟩
        · intro vs hvs
          simp only [vss, List.mem_map] at hvs
          obtain ⟨i, _, rfl⟩ := hvs
          simp
        · intro i y j c v hy hcj hv
          obtain ⟨_, _, rfl⟩ := hget i j v hv
          obtain ⟨u, S, h1, h2⟩ := hc i y hy j c hcj
          rw [h1, Option.getD_some]
          exact h2.stor ((storE_spec (hall' y (List.mem_of_getElem? hy))).2 c (List.mem_of_getElem? hcj))
      refine ⟨vss, ?_, hels⟩
      rw [hu]
      refine Src.ofSlice w he' ⟨B, o, none⟩ ys.length cap vss.flatten hels.flen ?_ hels.one
      intro j u hj
      rw [add_plain']
      have hdiv : j = (j / es) * es + j % es := by rw [Nat.mul_comm]; exact (Nat.div_add_mod j es).symm
      have hmod : j % es < es := Nat.mod_lt _ hpos
      rw [hdiv, hels.flat hpos hmod] at hj
      obtain ⟨h1, h2, rfl⟩ := hget _ _ _ hj
      have hy := List.getElem?_eq_getElem h1
      have hcl := hl _ (List.mem_of_getElem? hy)
      obtain ⟨u, S, h3, _⟩ := hc _ _ hy (j % es) _ (List.getElem?_eq_getElem (by rw [hcl]; exact h2))
      rw [h3, Option.getD_some]
      rw [Nat.add_assoc, ← hdiv] at h3
      exact h3
/-- A list is taken out of where it is owned: it is reserved. -/
theorem Lives.mono {w' : World} {F' : Fp} {env' : Nat → RLoc} {rt' : Al} {ok ok' : AV → Bool} (h : Lives w F env rt w' F' env' rt' ok) (hk : ∀ c, ok' c = true → ok c = true) : Lives w F env rt w' F' env' rt' ok' :=
  ⟨h.rep, fun p u ho => h.ref p u (hk _ ho), fun p es off len u ho => h.sl p es off len u (hk _ ho), fun p es len cap u ho => h.sa p es len cap u (hk _ ho)⟩
/-- Does it refer to nothing of the call's own? -/
def stay1 : AV → Bool
  | .ref p => pin p.r
  | .sl p _ _ _ => pin p.r
  | .sa p _ _ _ => pin p.r
  | _ => true
theorem stay_notR {r : Nat} (hr : pin r = false) (c : AV) (h : stay1 c = true) : notR r c = true := by
  cases c <;> simp only [stay1, notR, bne_iff_ne, ne_eq] at h ⊢ <;> (rintro rfl; rw [hr] at h; simp at h)
theorem stay_surv {r d lo hi : Nat} (hr : pin r = false) (c : AV) (h : stay1 c = true) : surv1 r d lo hi c = true := by
  cases c <;> simp only [stay1, surv1, Bool.or_eq_true, bne_iff_ne, ne_eq] at h ⊢
  · left; rintro rfl; rw [hr] at h; simp at h
  · left; left; rintro rfl; rw [hr] at h; simp at h
  · left; rintro rfl; rw [hr] at h; simp at h
theorem Rel.takeL (h : Rel w F X env n a st) {p : Pl} {es off len : Nat} {xs : List AV} {u : Value} (hc : cellAt st.rt p.r p.path p.j = some (.own es xs)) (hv : LR1 w F env st.rt (.sl p es off len) u) :
    ∃ S S2 : Fp, Rep w F (.own es ((xs.drop off).take len)) u S ∧ (∀ b a, S b a → S2 b a) ∧ Rel w F (fun b a => X b a ∨ S2 b a) env n a (Ow.takeL st p) ∧ (¬ (VB ≤ p.r ∧ p.path = []) → rloc w env (Ow.takeL st p).rt p.r p.path = rloc w env st.rt p.r p.path) ∧ (∀ b a, S2 b a → ¬ X b a) ∧ (pin p.r = false → Lives w F env st.rt w F env (Ow.takeL st p).rt stay1) := by
  obtain ⟨l, uc, xs', h1, h2, h3, h4, h5⟩ := hv
  rw [hc] at h2
  simp only [Option.some.injEq, AV.own.injEq, true_and] at h2
  subst h2
  unfold Ow.takeL
  split
  · rename_i hvb
    obtain ⟨hvb, hp⟩ := hvb
    obtain ⟨Tr, k1, k2, k3⟩ := h.drop p.r
    cases hx : st.rt.get p.r with
    | none => simp [cellAt, hx] at hc
    | some x =>
      have hr := k1 x hx
      obtain ⟨v, hv⟩ := (h.kind _ x hx).2 hvb
      rw [hv] at hr
      rw [hp] at hc h1
      simp only [cellAt, hx, Option.bind_some, AV.cellIn, AV.sub, AV.cells_one hr.1] at hc
      simp only [rloc, hx, hv, Option.bind_some, Option.some.injEq] at h1
      subst h1
      have hj : p.j = 0 := by
        cases hj : p.j with
        | zero => rfl
        | succ j => rw [hj] at hc; simp at hc
      rw [hj] at hc h3
      simp at hc
      subst hc
      simp only [rcell, if_true, Option.some.injEq] at h3
      subst h3
      obtain ⟨S', g1, g2⟩ := own_sub hr.2 h5 h4
      exact ⟨S', Tr, g1, g2, k3, fun hn => absurd ⟨hvb, hp⟩ hn, fun b a hh => (k2 b a hh).2, fun hpin => (Lives.del p.r).mono (stay_notR hpin)⟩
  · rename_i hvb
    cases hx : st.rt.get p.r with
    | none => simp [cellAt, hx] at hc
    | some x =>
      have hc' := hc
      simp only [cellAt, hx, Option.bind_some, AV.cellIn] at hc'
      cases hz : x.sub p.path with
      | none => simp [hz] at hc'
      | some z =>
        rw [hz, Option.bind_some] at hc'
        obtain ⟨B, o, u', S, k1, k2, k3, k4, k5, k6, k7⟩ := h.take hx hz hc' (fun e => by
          rcases Nat.lt_or_ge p.r VB with h6 | h6
          · exact h6
          · exact absurd ⟨h6, e⟩ hvb)
        rw [h1] at k1
        obtain rfl := Option.some.inj k1
        simp only [rcell] at h3
        rw [h3] at k2
        obtain rfl := Option.some.inj k2
        obtain ⟨S', g1, g2⟩ := own_sub k3 h5 h4
        refine ⟨S', S, g1, g2, ?_⟩
        simp only [St.takeC, hx]
        exact ⟨k5, fun _ => by rw [k6, h1], fun b a hh => (k4 b a hh).2, fun hpin => k7.mono (stay_surv hpin)⟩
theorem app_sound {o : Oper} {x y : Operand} {ox oy : Opd} {t ty e : TypeId} {z : Value} {es bytes d : Nat} {isStr : Bool} {K : Post} (hI : AppInfo P o x y t ty e z es bytes isStr) (hox : opd x = some ox) (hoy : opd y = some oy) (hd : o.dst = some d) (hdn : d < n) (hnn : n ≤ 1000)
    {st' : St} (hs : app1 d es bytes isStr st (st.ev ox) (st.ev oy) = some st') (hk : K st') : AOp P n o st K := by
  intro w F env a h
  cases h1 : st.ev ox with
  | none => simp [h1, app1] at hs
  | some vx =>
    cases h2 : st.ev oy with
    | none => simp [h1, h2, app1] at hs
    | some vy =>
      simp only [h1, h2, app1] at hs
      cases h3 : baseSt es st vx with
      | none => simp [h3, appFin] at hs
      | some r =>
        obtain ⟨xs, st1⟩ := r
        cases h4 : srcOf isStr es st vy with
        | none => simp [h3, h4, appFin] at hs
        | some ys =>
          simp only [h3, h4, appFin] at hs
          split at hs
          · rename_i hc
            obtain ⟨c1, c2, c3⟩ := hc
            obtain rfl := Option.some.inj hs
            obtain ⟨vss, hsrc, hels⟩ := h.src (P := P) h2 h4 hI.kind c1 hI.info.pos
            rw [opd_to hoy] at hsrc
            have hv := h.ev h1
            rw [opd_to hox] at hv
            have key : ∃ S X, Rep w F (.own es xs) (a.eval x) S ∧ (∀ b a, S b a → X b a) ∧ Rel w F X env n a st1 := by
              cases vx <;> simp only [baseSt] at h3
              case v u =>
                split at h3
                · rename_i hn
                  simp only [Option.some.injEq, Prod.mk.injEq] at h3
                  obtain ⟨rfl, rfl⟩ := h3
                  rw [(SV_val hv).1, isNilSl_eq hn]
                  exact ⟨E0, E0, .ownN hI.info.pos fun _ _ h => h, fun _ _ h => h, h⟩
                · simp at h3
              case sl p es' off len =>
                split at h3
                · rename_i he
                  subst he
                  have hv' : LR1 w F env st.rt (.sl p es' off len) (a.eval x) := hv
                  obtain ⟨_, _, xs', _, k2, _⟩ := hv'
                  simp only [k2, baseOwn, true_and] at h3
                  split at h3
                  · rename_i hl
                    simp only [Option.some.injEq, Prod.mk.injEq] at h3
                    obtain ⟨rfl, rfl⟩ := h3
                    have htk : (xs'.drop off).take len = xs'.drop off := List.take_of_length_le (by simp; omega)
                    obtain ⟨S, S2, m1, m2, m3, _⟩ := h.takeL k2 hv
                    rw [htk] at m1
                    exact ⟨S, _, m1, fun b a hh => .inr (m2 b a hh), m3⟩
                  · simp at h3
                · simp at h3
              all_goals simp at h3
            obtain ⟨S, X, g1, g2, g3⟩ := key
            exact Oper.wp_mono' (fun a' w' hg => hg.2) (app_fin g3 (Tr.refl _ _ _) hI hd hdn hnn g1 g2 hels (fun _ _ _ _ h => h.elim) hsrc c2 c3 hk)
          · simp at hs
/-- To a list that has no room nothing is written: what was there is there. -/
def appE1 (d es bytes : Nat) (isStr : Bool) (st : St) : Option AV → Option AV → Option St
  | some (.sa p es' l c), some vy => if es' ≠ 0 ∧ l = 0 ∧ c = 0 then appFin d es bytes (some ([], st)) (srcOf isStr es st vy) else none
  | _, _ => none
theorem appE_sound {o : Oper} {x y : Operand} {ox oy : Opd} {t ty e : TypeId} {z : Value} {es bytes d : Nat} {isStr b : Bool} {K : Post} (hI : AppInfo P o x y t ty e z es bytes isStr) (hox : opd x = some ox) (hoy : opd y = some oy) (hd : o.dst = some d) (hdn : d < n) (hnn : n ≤ 1000)
    {st' : St} (hs : appE1 d es bytes isStr st (st.ev ox) (st.ev oy) = some st') (hk : K st') : AOpC b P n o st K := by
  intro w F env a h
  unfold appE1 at hs
  split at hs
  · rename_i p es' l c vy h1 h2
    split at hs
    · rename_i hh
      obtain ⟨he, rfl, rfl⟩ := hh
      cases h4 : srcOf isStr es st vy with
      | none => simp [h4, appFin] at hs
      | some ys =>
        simp only [h4, appFin] at hs
        split at hs
        · rename_i hc
          obtain ⟨c1, c2, c3⟩ := hc
          obtain rfl := Option.some.inj hs
          obtain ⟨vss, hsrc, hels⟩ := h.src (P := P) h2 h4 hI.kind c1 hI.info.pos
          rw [opd_to hoy] at hsrc
          have hv := h.ev h1
          rw [opd_to hox] at hv
          obtain ⟨B, o0, ao, l1, l2⟩ := hv
          obtain ⟨l2, l3, l4⟩ := l2.pos he
          have hrep : Rep w F (.own es []) (a.eval x) E0 := by
            rw [l2]
            exact .own (fun _ _ => undef) (fun _ _ => E0) hI.info.pos (by simp) (fun h => absurd h (by simp)) (fun i x hx => by simp at hx) (fun i x j c hx => by simp at hx) (fun i x j c hx => by simp at hx) (fun _ _ _ _ _ _ h => h.elim) (fun _ _ _ h => h.elim) (fun _ _ _ _ h => h.elim) (fun b a => ⟨fun h => h.elim, fun h => by
              rcases h with ⟨_, h1, h2⟩ | ⟨_, _, h⟩
              · simp at h2; omega
              · exact h.elim⟩)
          exact Oper.wp_mono' (fun a' w' hg => ⟨fun _ => hg.1 fun _ _ h => h.elim, hg.2⟩) (app_fin h (Tr.refl _ _ _) hI hd hdn hnn hrep (fun _ _ h => h.elim) hels (fun _ _ _ _ h => h.elim) hsrc c2 c3 hk)
        · simp at hs
    · simp at hs
  · simp at hs
end
end Go.Proofs.YthlehngbadianaaDoor.Ow
