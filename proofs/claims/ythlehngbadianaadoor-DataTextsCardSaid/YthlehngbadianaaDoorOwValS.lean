/- The value operations give what they are said to give: references, loads, elements. -/
import Derived.Test.YthlehngbadianaaDoorOwValValE
set_option linter.unusedVariables false
set_option linter.unusedSimpArgs false
set_option linter.unnecessarySimpa false
namespace Go.Proofs.YthlehngbadianaaDoor.Ow
open Go Go.RowKit
theorem add_plain' (g o j : Nat) : (⟨g, o, none⟩ : Addr).add j = ⟨g, o + j, none⟩ := by
  unfold Addr.add
  split
  · rename_i h; subst h; rfl
  · rfl
theorem cells_of_one {v : Value} (h : v.oneCell' = true) : v.cells = #[v] := by cases v <;> simp_all [Value.oneCell', Value.cells]
/-- Cells stay as they are. -/
def CellsLe (w w' : World) : Prop := ∀ ad v, w.cell? ad = some v → w'.cell? ad = some v
theorem CellsLe.refl (w : World) : CellsLe w w := fun _ _ h => h
def isAggD : TypeDesc → Bool
  | .struct _ => true
  | .array _ _ => true
  | _ => false
def sizeT (P : Program) (t : TypeId) : Option Nat := (P.info? t).map (·.size)
/-- How a variable of a type is loaded: so many cells at once, or one cell. -/
def loadT (P : Program) (t : TypeId) : Option (Option Nat) :=
  match P.underlying t with
  | some d => if isAggD d then (sizeT P t).bind fun n => if n = 0 then none else some (some n) else some none
  | none => none
theorem run_sizeOf {P : Program} {w : World} {t : TypeId} {n : Nat} (h : sizeT P t = some n) : (Go.sizeOf t).run P w = .ok n w := by
  simp only [sizeT, Option.map_eq_some_iff] at h
  obtain ⟨i, hi, rfl⟩ := h
  simp [Go.sizeOf, typeInfo, hi]
theorem run_isAgg {P : Program} {w : World} {t : TypeId} {d : TypeDesc} (h : P.underlying t = some d) : (isAgg t).run P w = .ok (isAggD d) w := by
  simp only [isAgg, Sem.run_bind, run_underlying h, Result.andThen_ok]
  cases d <;> rfl
section
variable {P : Program} {w : World} {F X : Fp} {env : Nat → RLoc} {n : Nat} {a : Act} {st : St} {rt : Al}
/-- The run gives a value that is worth x, and the world stays; so it does in each world (a load: in each one in which the cells are as they are). -/
def Gives (ld : Bool) (P : Program) (w : World) (F : Fp) (env : Nat → RLoc) (st : St) (s : Sem Value) (x : AV) : Prop :=
  ∃ v, (∀ w', (ld = true → CellsLe w w') → s.run P w' = .ok v w') ∧ SV w F env st.rt x v
theorem SV_val {v u : Value} (h : SV w F env rt (.v v) u) : u = v ∧ u.oneCell' = true := by
  cases h with
  | v h1 _ => exact ⟨rfl, h1⟩
theorem SV_mk {v : Value} (h : v.oneCell' = true) : SV w F env rt (.v v) v := Rep.v h fun _ _ h => h
theorem ev_val (h : Rel w F X env n a st) {x : Operand} {o : Opd} (ho : opd x = some o) {v : Value} (hv : st.ev o = some (.v v)) : a.eval x = v ∧ v.oneCell' = true := by
  rw [← opd_to ho]
  have := SV_val (h.ev hv)
  exact ⟨this.1, this.1 ▸ this.2⟩
theorem Rel.int (h : Rel w F X env n a st) {x : Opd} {i : Int} (hx : st.int x = some i) : ∃ k, a.eval x.to = .int k i := by
  simp only [St.int] at hx
  split at hx
  · rename_i k m hv
    obtain rfl := Option.some.inj hx
    exact ⟨k, (SV_val (h.ev hv)).1⟩
  · simp at hx
theorem Rel.str (h : Rel w F X env n a st) {x : Opd} {s : ByteArray} (hx : st.str x = some s) : a.eval x.to = .string s := by
  simp only [St.str] at hx
  split at hx
  · rename_i m hv
    obtain rfl := Option.some.inj hx
    exact (SV_val (h.ev hv)).1
  · simp at hx
/-- What owns nothing may be copied. -/
theorem Rep.leaf {c : AV} {u : Value} {S : Fp} (h : Rep w F c u S) (h1 : ∀ es xs, c ≠ .own es xs) (h2 : ∀ x, c ≠ .obj x) (h3 : ∀ I, c ≠ .ext I) : Rep w F c u E0 := by
  have key : (∀ b a, ¬ S b a) → Rep w F c u E0 := fun hS => h.congr fun b a => ⟨fun hh => hS b a hh, fun hh => hh.elim⟩
  cases h
  case own => exact absurd rfl (h1 _ _)
  case ownN => exact absurd rfl (h1 _ _)
  case obj => exact absurd rfl (h2 _)
  case ext => exact absurd rfl (h3 _)
  all_goals (rename_i hT; exact key hT)
theorem ploc_snoc : ∀ (q : List Hop) (c : AV) (u : Value) (i j i' : Nat) (B o B' o' : Nat) (cx : AV) (ux : Value), ploc w c u i q = some (B, o) → c.ccell i q j = some cx → w.cell? ⟨B, o + j, none⟩ = some ux → hopLoc cx ux i' = some (B', o') →
    ploc w c u i (q ++ [(j, i')]) = some (B', o')
  | [], c, u, i, j, i', B, o, B', o', cx, ux, h1, h2, h3, h4 => by
    simp only [ploc] at h1
    cases hy : c.elem i with
    | none => simp [AV.ccell, AV.csub, hy] at h2
    | some y =>
      simp only [AV.ccell, AV.csub, hy, Option.bind_some, AV.sub] at h2
      simp only [List.nil_append, ploc, h1, hy, h2, h3, Option.bind_some, h4]
  | (j1, i1) :: q, c, u, i, j, i', B, o, B', o', cx, ux, h1, h2, h3, h4 => by
    cases hy : c.elem i with
    | none => simp [AV.ccell, AV.csub, hy] at h2
    | some y =>
      rw [AV.ccell, AV.csub_cons, hy, Option.bind_some] at h2
      cases hc : y.cells[j1]? with
      | none => simp [hc] at h2
      | some c1 =>
        rw [hc, Option.bind_some] at h2
        simp only [ploc, hy, hc, Option.bind_some] at h1
        cases hl : hopLoc c u i with
        | none => simp [hl] at h1
        | some l =>
          simp only [hl, Option.bind_some] at h1
          cases hu : w.cell? ⟨l.1, l.2 + j1, none⟩ with
          | none => simp [hu] at h1
          | some u1 =>
            simp only [hu, Option.bind_some] at h1
            simp only [List.cons_append, ploc, hl, hy, hc, hu, Option.bind_some]
            exact ploc_snoc q c1 u1 i1 j i' B o B' o' cx ux h1 h2 h3 h4
theorem rloc_snoc {T : Nat → Fp} (ok : Ok w F env T rt) {r : Nat} {q : List Hop} {j i' : Nat} {l : RLoc} {c : AV} {u : Value} {B' o' : Nat} (h1 : rloc w env rt r q = some l) (h2 : cellAt rt r q j = some c) (h3 : rcell w l j = some u) (h4 : hopLoc c u i' = some (B', o')) :
    rloc w env rt r (q ++ [(j, i')]) = some (.mem B' o') := by
  cases hx : rt.get r with
  | none => simp [cellAt, hx] at h2
  | some x =>
    simp only [rloc, hx, Option.bind_some] at h1 ⊢
    simp only [cellAt, hx, Option.bind_some] at h2
    cases he : env r with
    | mem B0 o0 =>
      simp only [he, Option.map_eq_some_iff] at h1 ⊢
      obtain ⟨⟨B, o⟩, h1, rfl⟩ := h1
      exact ⟨(B', o'), ploc_snoc q (.obj x) (ptrTo B0 o0) 0 j i' B o B' o' c u h1 h2 h3 h4, rfl⟩
    | val v =>
      have hr := ok.root r x hx
      rw [he] at hr
      simp only [he] at h1
      cases q with
      | nil =>
        simp only [Option.some.injEq] at h1
        subst h1
        simp only [AV.cellIn, AV.sub, Option.bind_some, AV.cells_one hr.1] at h2
        cases j with
        | succ j => simp at h2
        | zero =>
          simp at h2
          subst h2
          simp only [rcell, if_true, Option.some.injEq] at h3
          subst h3
          simp only [List.nil_append, if_true, ploc, h4, Option.map_some]
      | cons a p =>
        obtain ⟨j1, i1⟩ := a
        simp only [List.cons_append] at h1 ⊢
        split at h1
        · rename_i hj
          subst hj
          simp only [Option.map_eq_some_iff] at h1
          obtain ⟨⟨B, o⟩, h1, rfl⟩ := h1
          simp only [if_true]
          rw [ploc_snoc p x v i1 j i' B o B' o' c u h1 (by rw [← cellIn_one hr.1]; exact h2) h3 h4]
          rfl
        · simp at h1
/-- A place's cell. -/
theorem Rel.at_ (h : Rel w F X env n a st) {r : Nat} {q : List Hop} {j : Nat} {c : AV} (hc : cellAt st.rt r q j = some c) : ∃ l u S, rloc w env st.rt r q = some l ∧ rcell w l j = some u ∧ Rep w F c u S := by
  obtain ⟨T, ok, _⟩ := h.ok
  cases hx : st.rt.get r with
  | none => simp [cellAt, hx] at hc
  | some x =>
    simp only [cellAt, hx, Option.bind_some] at hc
    obtain ⟨l, u, S, h1, h2, h3, _⟩ := (ok.root r x hx).at_ hx hc
    exact ⟨l, u, S, h1, h2, h3⟩
theorem rfGet_mem : ∀ (l : List (Nat × Nat × AV)) (r j : Nat) (x : AV), rfGet l r j = some x → (r, j, x) ∈ l
  | [], _, _, _, h => by simp [rfGet] at h
  | (r', j', x') :: l, r, j, x, h => by
    simp only [rfGet] at h
    split at h
    · rename_i e
      obtain ⟨rfl, rfl⟩ := e
      obtain rfl := Option.some.inj h
      exact List.mem_cons_self ..
    · exact List.mem_cons_of_mem _ (rfGet_mem l r j x h)
/-- What a cell is worth when it is loaded. -/
theorem Rel.ld1 (h : Rel w F X env n a st) {p : Pl} {c : AV} {u : Value} {B o : Nat} (hc : cellAt st.rt p.r p.path p.j = some c) (hl : rloc w env st.rt p.r p.path = some (.mem B o)) (hu : w.cell? ⟨B, o + p.j, none⟩ = some u) : LR w F env st.rt (Ow.ld1 st.rf p c) u := by
  obtain ⟨l, u', S, h1, h2, h3⟩ := h.at_ hc
  rw [hl] at h1
  obtain rfl := Option.some.inj h1
  simp only [rcell, hu, Option.some.injEq] at h2
  subst h2
  obtain ⟨T, ok, _⟩ := h.ok
  have hgen : (∀ es xs, c ≠ .own es xs) → (∀ x, c ≠ .obj x) → (∀ I, c ≠ .ext I) → LR w F env st.rt c u := fun a1 a2 a3 => LR.of_rep (h3.leaf a1 a2 a3)
  have hj : LR w F env st.rt .junk u := Rep.junk h3.one fun _ _ h => h
  cases c <;> simp only [Ow.ld1]
  case own es xs =>
    refine ⟨_, _, xs, hl, hc, hu, by omega, ?_⟩
    cases h3 with
    | ownN hes hT => exact .inl ⟨rfl, rfl, rfl, rfl⟩
    | own u1 S hes hcap hb hlen hc1 hr hd ho hS hT => exact .inr ⟨_, _, _, _, _, _, rfl, rfl, hcap, by omega, .inr (by omega)⟩
  case obj x =>
    cases h3 with
    | obj u1 S hb hc1 hr hd ho hS hT => exact ⟨_, _, rloc_snoc ok hl hc (show rcell w (.mem B o) p.j = _ from hu) rfl, rfl⟩
  case ext I => exact hj
  case junk =>
    split
    · rename_i hp
      cases hg : rfGet st.rf p.r p.j with
      | none => exact hj
      | some x =>
        obtain ⟨B', o', u', e1, ⟨x0, e2, _⟩, e3, e4⟩ := h.rf _ (rfGet_mem _ _ _ _ hg)
        simp only at e1 e2 e3 e4
        rw [hp] at hl
        simp only [rloc, e2, Option.bind_some, e1, ploc, hopLoc, ptrTo, Option.map_some, Option.some.injEq, RLoc.mem.injEq] at hl
        obtain ⟨rfl, rfl⟩ := hl
        rw [hu] at e3
        obtain rfl := Option.some.inj e3
        exact e4
    · exact hj
  all_goals exact hgen (by simp) (by simp) (by simp)
theorem ldL_length (rf : List (Nat × Nat × AV)) (r : Nat) (path : List Hop) : ∀ (cs : List AV) (j : Nat), (ldL rf r path j cs).length = cs.length
  | [], _ => rfl
  | c :: cs, j => by simp [ldL, ldL_length rf r path cs]
theorem ldL_get (rf : List (Nat × Nat × AV)) (r : Nat) (path : List Hop) : ∀ (cs : List AV) (j i : Nat), (ldL rf r path j cs)[i]? = (cs[i]?).map (Ow.ld1 rf ⟨r, path, j + i⟩)
  | [], _, _ => by simp [ldL]
  | c :: cs, j, i => by
    cases i with
    | zero => simp [ldL]
    | succ i => simp only [ldL, List.getElem?_cons_succ, ldL_get rf r path cs, show j + 1 + i = j + (i + 1) by omega]
theorem gives_mv (h : Rel w F X env n a st) {x : Operand} {e : VE} {y : AV} (hc : (opd x).map .mv = some e) (hx : veval e st = some y) : SV w F env st.rt y (a.eval x) := by
  simp only [Option.map_eq_some_iff] at hc
  obtain ⟨o, ho, rfl⟩ := hc
  rw [← opd_to ho]
  exact h.ev hx
/-- What an address on is worth. -/
theorem pOff_sound {y z : AV} {u : Value} {m : Nat} (hv : SV w F env rt y u) (hz : pOff m y = some z) : ∃ B o, u = .pointer (some ⟨B, o, none⟩) ∧ SV w F env rt z (.pointer (some ⟨B, o + m, none⟩)) := by
  cases y <;> simp only [pOff] at hz
  case ref p =>
    obtain rfl := Option.some.inj hz
    obtain ⟨B, o, h1, rfl⟩ := hv
    exact ⟨B, o + p.j, rfl, B, o, h1, by simp [Nat.add_assoc]⟩
  case fptr x j =>
    split at hz
    · rename_i hj
      obtain rfl := Option.some.inj hz
      have hv' : Rep w F (.fptr x j) u E0 := hv
      cases hv' with
      | fptr u1 hc hf hr hT =>
        rename_i B o
        refine ⟨B, o + j, rfl, ?_⟩
        rw [Nat.add_assoc]
        exact Rep.fptr u1 hc hf hr hT
    · simp at hz
  all_goals simp at hz
theorem gives_fa (h : Rel w F X env n a st) {s : TypeId} {fields : Array Field} {fl : Field} {f m : Nat} {x : Operand} {ox : Opd} {y : AV} (hu : P.underlying s = some (.struct fields)) (hf : fields[f]? = some fl) (hm : sizeT P fl.type = some m) (hm0 : m ≠ 0)
    (hox : opd x = some ox) (hx : veval (.fa ox fl.offset) st = some y) : Gives false P w F env st (Instr.fieldAt s (a.eval x) f) y := by
  simp only [veval, Option.bind_eq_some_iff] at hx
  obtain ⟨z, h1, hz⟩ := hx
  obtain ⟨B, o, e, hs⟩ := pOff_sound (h.ev h1) hz
  rw [← opd_to hox, e]
  refine ⟨_, fun w' _ => ?_, hs⟩
  simp only [Instr.fieldAt, Instr.sureAddr, fieldPlace, Sem.run_bind, Sem.run_pure, Result.andThen_ok, run_underlying hu, hf, run_sizeOf hm, hm0, if_false, add_plain']
theorem gives_iaa (h : Rel w F X env n a st) {t e : TypeId} {x i : Operand} {ox oi : Opd} {len es : Nat} {y : AV} (hu : P.underlying t = some (.array len e)) (hs : sizeT P e = some es) (hox : opd x = some ox) (hoi : opd i = some oi)
    (hx : veval (.iaa ox oi len es) st = some y) : Gives false P w F env st (Instr.indexAt t (a.eval x) (a.eval i)) y := by
  simp only [veval] at hx
  cases h1 : st.ev ox with
  | none => simp [h1] at hx
  | some z =>
    cases h2 : st.int oi with
    | none => simp [h1, h2] at hx
    | some m =>
      simp only [h1, h2] at hx
      split at hx
      · rename_i hb
        obtain ⟨B, o, e, hs'⟩ := pOff_sound (h.ev h1) hx
        obtain ⟨ik, hik⟩ := h.int h2
        rw [← opd_to hox, ← opd_to hoi, e, hik]
        refine ⟨_, fun w' _ => ?_, hs'⟩
        simp only [Instr.indexAt, Instr.sureAddr, asIntOf, Sem.run_bind, Sem.run_pure, Result.andThen_ok, run_underlying hu, run_sizeOf hs, hb.1, hb.2, and_self, if_true, add_plain']
      · simp at hx
/-- What a slice shows, in memory. -/
theorem Rel.rd (h : Rel w F X env n a st) {y : AV} {u : Value} (hv : SV w F env st.rt y u) {es : Nat} {ys : List AV} (hr : rdS es st y = some ys) :
    ∃ ad cap, u = .slice ad ys.length cap ∧ ys.length ≤ cap ∧ ((ys = [] ∧ cap = 0) ∨ ∃ B o, ad = some ⟨B, o, none⟩ ∧ (∀ y ∈ ys, y.cells.length = es) ∧
      ∀ (i : Nat) y, ys[i]? = some y → ∀ (j : Nat) c, y.cells[j]? = some c → ∃ u S, w.cell? ⟨B, o + i * es + j, none⟩ = some u ∧ Rep w F c u S) := by
  cases y <;> simp only [rdS] at hr
  case v x =>
    split at hr
    · rename_i hn
      obtain rfl := Option.some.inj hr
      exact ⟨none, 0, by rw [(SV_val hv).1, isNilSl_eq hn]; rfl, Nat.le_refl _, .inl ⟨rfl, rfl⟩⟩
    · simp at hr
  case lst es' xs =>
    split at hr
    · rename_i he
      subst he
      obtain rfl := Option.some.inj hr
      have hv' : Rep w F (.lst es' xs) u E0 := hv
      cases hv' with
      | lstN hT => exact ⟨_, 0, rfl, Nat.le_refl _, .inl ⟨rfl, rfl⟩⟩
      | lst u1 hes hcap hlen hc hf hr hT =>
        refine ⟨_, _, rfl, hcap, .inr ⟨_, _, rfl, ?_, ?_⟩⟩
        · intro y hy
          obtain ⟨i, hi⟩ := List.getElem?_of_mem hy
          exact hlen i y hi
        · intro i y hy j c hc'
          exact ⟨_, _, hc i y j c hy hc', hr i y j c hy hc'⟩
    · simp at hr
  case sl p es' off len =>
    split at hr
    · rename_i he
      subst he
      obtain ⟨l, uc, xs, h1, h2, h3, h4, h5⟩ := hv
      simp only [h2, takeOwn, true_and, h4, if_true, Option.some.injEq] at hr
      subst hr
      have hyl : ((xs.drop off).take len).length = len := by simp; omega
      rw [hyl]
      obtain ⟨l', u', S, k1, k2, k3⟩ := h.at_ h2
      rw [h1] at k1
      obtain rfl := Option.some.inj k1
      rw [h3] at k2
      obtain rfl := Option.some.inj k2
      rcases h5 with ⟨rfl, rfl, rfl, rfl⟩ | ⟨B, o, m, cap, ao, cap', rfl, rfl, h6, h7, h8⟩
      · exact ⟨none, 0, rfl, Nat.le_refl _, .inl ⟨by simp, rfl⟩⟩
      · refine ⟨_, cap', rfl, h6, .inr ⟨B, ao, rfl, ?_, ?_⟩⟩
        · cases k3 with
          | own u1 S hes hcap hb hlen hc hr hd ho hS hT =>
            intro y hy
            obtain ⟨i, hi⟩ := List.getElem?_of_mem (List.mem_of_mem_drop (List.mem_of_mem_take hy))
            exact hlen i y hi
        · cases k3 with
          | own u1 S hes hcap hb hlen hc hr hd ho hS hT =>
            intro i y hy j c hc'
            rw [List.getElem?_take] at hy
            split at hy
            · rename_i hi
              rw [List.getElem?_drop] at hy
              have e := h8.resolve_left (by omega)
              refine ⟨_, _, ?_, hr _ y j c hy hc'⟩
              rw [← hc _ y j c hy hc', e]
              congr 2
              rw [Nat.add_mul]; omega
            · simp at hy
    · simp at hr
  case sa p es' len cap =>
    split at hr
    · rename_i he
      obtain ⟨rfl, rfl⟩ := he
      obtain ⟨B, o, ao, h1, rfl, h3, h4⟩ := hv
      cases hz : st.node p with
      | none => simp [hz, takeArr] at hr
      | some z =>
        simp only [hz, takeArr] at hr
        split at hr
        · rename_i hle
          obtain rfl := Option.some.inj hr
          have hyl : ((z.cells.drop p.j).take len).length = len := by simp; omega
          rw [hyl]
          have hcell : ∀ (i : Nat) c, ((z.cells.drop p.j).take len)[i]? = some c → ∃ u S, w.cell? ⟨B, o + p.j + i, none⟩ = some u ∧ Rep w F c u S := by
            intro i c hc
            rw [List.getElem?_take] at hc
            split at hc
            · rename_i hi
              rw [List.getElem?_drop] at hc
              have hca : cellAt st.rt p.r p.path (p.j + i) = some c := by
                simp only [St.node] at hz
                simp only [cellAt, AV.cellIn]
                cases hx : st.rt.get p.r with
                | none => simp [hx] at hz
                | some x => rw [hx, Option.bind_some] at hz; simp only [Option.bind_some, hz, hc]
              obtain ⟨l, u, S, k1, k2, k3⟩ := h.at_ hca
              rw [h1] at k1
              obtain rfl := Option.some.inj k1
              refine ⟨u, S, ?_, k3⟩
              rw [← k2]; simp only [rcell]; congr 2; omega
            · simp at hc
          refine ⟨_, cap, rfl, h3, .inr ⟨B, ao, rfl, ?_, ?_⟩⟩
          · intro y hy
            obtain ⟨i, hi⟩ := List.getElem?_of_mem hy
            obtain ⟨u, S, _, k⟩ := hcell i y hi
            rw [AV.cells_one k.avone]; rfl
          · intro i y hy j c hc
            obtain ⟨u, S, k1, k2⟩ := hcell i y hy
            rw [AV.cells_one k2.avone] at hc
            cases j with
            | succ j => simp at hc
            | zero =>
              simp at hc
              subst hc
              have hi := (List.getElem?_eq_some_iff.1 hy).1
              rw [hyl] at hi
              have e := h4.resolve_left (by omega)
              exact ⟨u, S, by rw [← k1, e]; congr 2; omega, k2⟩
        · simp at hr
    · simp at hr
  all_goals simp at hr
theorem gives_ia (h : Rel w F X env n a st) {t e : TypeId} {x i : Operand} {ox oi : Opd} {es : Nat} {y : AV} (hu : P.underlying t = some (.slice e)) (hs : sizeT P e = some es) (hox : opd x = some ox) (hoi : opd i = some oi)
    (hx : veval (.ia ox oi es) st = some y) : Gives false P w F env st (Instr.indexAt t (a.eval x) (a.eval i)) y := by
  simp only [veval] at hx
  cases h1 : st.ev ox with
  | none => simp [h1] at hx
  | some z =>
    cases h2 : st.int oi with
    | none => simp [h1, h2] at hx
    | some m =>
      simp only [h1, h2] at hx
      cases h3 : rdS es st z with
      | none => simp [h3] at hx
      | some ys =>
        simp only [h3] at hx
        split at hx
        · rename_i hb
          obtain ⟨hb1, hb2⟩ := hb
          have hv := h.ev h1
          obtain ⟨ad, cap, hu1, hcap, hcase⟩ := h.rd hv h3
          obtain ⟨ik, hik⟩ := h.int h2
          have hmn : m.toNat < ys.length := by omega
          rcases hcase with ⟨rfl, _⟩ | ⟨B, o, rfl, hl, hc⟩
          · simp at hmn
          rw [← opd_to hox, ← opd_to hoi, hu1, hik]
          refine ⟨.pointer (some ⟨B, o + m.toNat * es, none⟩), fun w' _ => ?_, ?_⟩
          · simp only [Instr.indexAt, asIntOf, Sem.run_bind, Sem.run_pure, Result.andThen_ok, run_underlying hu, run_sizeOf hs, hb1, hb2, and_self, if_true, add_plain']
          · -- what is there
            rw [hu1] at hv
            cases z <;> simp only [elemP] at hx
            case lst es' xs =>
              simp only [rdS] at h3
              split at h3
              · rename_i he
                subst he
                obtain rfl := Option.some.inj h3
                simp only [Option.map_eq_some_iff] at hx
                obtain ⟨x1, hx1, rfl⟩ := hx
                have hv' : Rep w F (.lst es' xs) (.slice (some ⟨B, o, none⟩) xs.length cap) E0 := hv
                cases hv' with
                | lstN hT => simp at hx1
                | lst u1 hes hcap hlen hc hf hr hT =>
                  have hxl := hlen _ x1 hx1
                  refine Rep.fptr (B := B) (o := o + m.toNat * es') (j := 0) (u1 m.toNat) (fun j c hj => hc _ x1 j c hx1 hj) (fun j hj => ?_) (fun j c hj => hr _ x1 j c hx1 hj) hT
                  exact hf _ _ hmn (by omega)
              · simp at h3
            case sl p es' off len =>
              obtain rfl := Option.some.inj hx
              simp only [rdS] at h3
              split at h3
              · rename_i he
                subst he
                obtain ⟨l, uc, xs, k1, k2, k3, k4, k5⟩ := hv
                simp only [k2, takeOwn, true_and, k4, if_true, Option.some.injEq] at h3
                subst h3
                have hyl : ((xs.drop off).take len).length = len := by simp; omega
                rw [hyl] at hmn
                rcases k5 with ⟨_, _, _, k6⟩ | ⟨B', o', m', cap2, ao, cap', rfl, k6, k7, k8, k9⟩
                · simp at k6
                · simp only [Value.slice.injEq, Option.some.injEq, Addr.mk.injEq, and_true] at k6
                  obtain ⟨⟨rfl, rfl⟩, _, rfl⟩ := k6
                  obtain ⟨T, ok, _⟩ := h.ok
                  have e := k9.resolve_left (by omega)
                  refine ⟨_, _, rloc_snoc ok k1 k2 k3 rfl, ?_⟩
                  rw [e]
                  simp [Nat.add_mul, Nat.add_assoc]
              · simp at h3
            case sa p es' len cap' =>
              obtain rfl := Option.some.inj hx
              simp only [rdS] at h3
              split at h3
              · rename_i he
                obtain ⟨rfl, rfl⟩ := he
                obtain ⟨B', o', ao, k1, k2, k3, k4⟩ := hv
                simp only [Value.slice.injEq, Option.some.injEq, Addr.mk.injEq, and_true] at k2
                obtain ⟨⟨rfl, rfl⟩, k5, rfl⟩ := k2
                have e := k4.resolve_left (by omega)
                refine ⟨_, _, k1, ?_⟩
                rw [e]
                simp [Nat.add_assoc]
              · simp at h3
            all_goals simp at hx
        · simp at hx
theorem gives_ld (h : Rel w F X env n a st) {t : TypeId} {x : Operand} {ox : Opd} {m : Option Nat} {y : AV} (ht : loadT P t = some m) (hox : opd x = some ox)
    (hx : veval (.ld ox m) st = some y) : Gives true P w F env st (Instr.loadAt t (a.eval x)) y := by
  simp only [veval, Option.bind_eq_some_iff] at hx
  obtain ⟨z, h1, hz⟩ := hx
  have hv := h.ev h1
  rw [← opd_to hox]
  simp only [loadT] at ht
  cases hd : P.underlying t with
  | none => simp [hd] at ht
  | some d =>
    simp only [hd] at ht
    -- one cell
    have one : ∀ B o u y, m = none → a.eval ox.to = .pointer (some ⟨B, o, none⟩) → w.cell? ⟨B, o, none⟩ = some u → SV w F env st.rt y u → Gives true P w F env st (Instr.loadAt t (a.eval ox.to)) y := by
      intro B o u y hm hp hc hy
      subst hm
      have hag : isAggD d = false := by
        cases hag : isAggD d with
        | false => rfl
        | true => rw [hag] at ht; simp only [if_true, Option.bind_eq_some_iff] at ht; obtain ⟨q, _, hq⟩ := ht; split at hq <;> simp at hq
      refine ⟨u, fun w' hw' => ?_, hy⟩
      have hu' := hw' rfl _ _ hc
      rw [hp]
      simp only [Instr.loadAt, Instr.sureAddr, loadVar, Sem.run_bind, Sem.run_pure, Result.andThen_ok, run_isAgg hd, hag, Bool.false_eq_true, if_false, run_load, hu']
    have many : ∀ B o s (cs : List AV), m = some s → a.eval ox.to = .pointer (some ⟨B, o, none⟩) → cs.length = s → (∀ (i : Nat) c, cs[i]? = some c → ∃ u, w.cell? ⟨B, o + i, none⟩ = some u ∧ LR w F env st.rt c u) → Gives true P w F env st (Instr.loadAt t (a.eval ox.to)) (.agg cs) := by
      intro B o s cs hm hp hl hcs
      subst hm
      have hag : isAggD d = true := by
        cases hag : isAggD d with
        | true => rfl
        | false => rw [hag] at ht; simp at ht
      rw [hag] at ht
      simp only [if_true, Option.bind_eq_some_iff] at ht
      obtain ⟨s', hs', hs2⟩ := ht
      have hs0 : s' ≠ 0 := by intro e; simp [e] at hs2
      simp only [hs0, if_false, Option.some.injEq] at hs2
      subst hs2
      let g : Nat → Value := fun j => (w.cell? ⟨B, o + j, none⟩).getD undef
      have hcell : ∀ j, j < s' → w.cell? ⟨B, o + j, none⟩ = some (g j) := by
        intro j hj
        obtain ⟨u, hu, _⟩ := hcs j _ (List.getElem?_eq_getElem (by omega))
        simp [g, hu]
      have hrun := fun (w' : World) (hw' : CellsLe w w') => run_loadCells (P := P) w' ⟨B, o, none⟩ s' g (fun j hj => by rw [add_plain']; exact hw' _ _ (hcell j hj))
      refine ⟨.agg ((List.range s').map g).toArray, fun w' hw' => ?_, ⟨_, rfl, by simp [hl], ?_⟩⟩
      · rw [hp]
        simp only [Instr.loadAt, Instr.sureAddr, loadVar, Sem.run_bind, Sem.run_pure, Result.andThen_ok, run_isAgg hd, hag, if_true, run_sizeOf hs', hrun w' (hw' rfl)]
      · intro i c v hc hv'
        obtain ⟨u, hu, hlr⟩ := hcs i c hc
        have hi := (List.getElem?_eq_some_iff.1 hc).1
        have : v = g i := by
          rw [List.getElem?_toArray, List.getElem?_map, List.getElem?_range (by omega)] at hv'
          simpa using hv'.symm
        subst this
        rw [hcell i (by omega)] at hu
        obtain rfl := Option.some.inj hu
        exact hlr
    cases z <;> simp only [St.load] at hz
    case ref p =>
      obtain ⟨B, o, k1, k2⟩ := hv
      cases m with
      | none =>
        simp only [Option.map_eq_some_iff] at hz
        obtain ⟨c, hc, rfl⟩ := hz
        obtain ⟨l, u, S, e1, e2, e3⟩ := h.at_ hc
        rw [k1] at e1
        obtain rfl := Option.some.inj e1
        have hl := h.ld1 hc k1 e2
        exact one B _ u _ rfl k2 e2 ((SV_one hl.avone).2 hl)
      | some s =>
        cases hn : st.node p with
        | none => simp [hn, ldN] at hz
        | some z =>
          simp only [hn, ldN] at hz
          split at hz
          · rename_i hle
            obtain rfl := Option.some.inj hz
            refine many B (o + p.j) s _ rfl k2 (by rw [ldL_length]; simp; omega) ?_
            intro i c hc
            rw [ldL_get, Option.map_eq_some_iff] at hc
            obtain ⟨c0, hc0, rfl⟩ := hc
            rw [List.getElem?_take] at hc0
            split at hc0
            · rw [List.getElem?_drop] at hc0
              have hca : cellAt st.rt p.r p.path (p.j + i) = some c0 := by
                simp only [St.node] at hn
                simp only [cellAt, AV.cellIn]
                cases hx : st.rt.get p.r with
                | none => simp [hx] at hn
                | some x => rw [hx, Option.bind_some] at hn; simp only [Option.bind_some, hn, hc0]
              obtain ⟨l, u, S, e1, e2, e3⟩ := h.at_ hca
              rw [k1] at e1
              obtain rfl := Option.some.inj e1
              simp only [rcell] at e2
              exact ⟨u, by rw [← e2]; congr 2; omega, h.ld1 (p := ⟨p.r, p.path, p.j + i⟩) hca k1 e2⟩
            · simp at hc0
          · simp at hz
    case fptr y' j =>
      have hv' : Rep w F (.fptr y' j) (a.eval ox.to) E0 := hv
      generalize hp : a.eval ox.to = pv at hv'
      cases hv' with
      | fptr u1 hc hf hr hT =>
        rename_i B o
        cases m with
        | none =>
          simp only at hz
          have := hr j y hz
          exact hp ▸ one B (o + j) _ _ rfl hp (hc j y hz) ((SV_one this.avone).2 (LR.of_rep this))
        | some s =>
          simp only at hz
          split at hz
          · rename_i hle
            obtain rfl := Option.some.inj hz
            refine hp ▸ many B (o + j) s _ rfl hp (by simp; omega) ?_
            intro i c hc'
            rw [List.getElem?_take] at hc'
            split at hc'
            · rw [List.getElem?_drop] at hc'
              exact ⟨_, by rw [Nat.add_assoc]; exact hc _ c hc', LR.of_rep (hr _ c hc')⟩
            · simp at hc'
          · simp at hz
    all_goals simp at hz
end
end Go.Proofs.YthlehngbadianaaDoor.Ow
