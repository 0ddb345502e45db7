/- Slice literals, boxes, stores. -/
import Derived.Test.YthlehngbadianaaDoorOwFreezeFreeze2
set_option linter.unusedVariables false
set_option linter.unusedSimpArgs false
set_option linter.unnecessarySimpa false
namespace Go.Proofs.YthlehngbadianaaDoor.Ow
open Go Go.RowKit
def evL (st : St) : List Opd → Option (List AV)
  | [] => some []
  | o :: os => match st.ev o, evL st os with
    | some x, some xs => some (x :: xs)
    | _, _ => none
def litFin (d es : Nat) (st : St) : Option (List AV) → Option St
  | some xs => if xs.all (storE es) = true then some ((st.new (2000 + d) (.own es xs)).set d (.sl ⟨2000 + d, [], 0⟩ es 0 xs.length)) else none
  | none => none
section
variable {P : Program} {w : World} {F X : Fp} {env : Nat → RLoc} {n : Nat} {a : Act} {st : St} {rt : Al}
theorem evL_spec (h : Rel w F X env n a st) : ∀ (xs : List Operand) (os : List Opd) (ys : List AV), xs.mapM opd = some os → evL st os = some ys → ys.length = xs.length ∧ ∀ (i : Nat) (y : AV), ys[i]? = some y → ∃ x, xs[i]? = some x ∧ SV w F env st.rt y (a.eval x)
  | [], os, ys, h1, h2 => by simp at h1; subst h1; simp [evL] at h2; subst h2; simp
  | x :: xs, os, ys, h1, h2 => by
    simp only [List.mapM_cons, Option.pure_def, Option.bind_eq_bind, Option.bind_eq_some_iff, Option.some.injEq] at h1
    obtain ⟨o, ho, r, hr, rfl⟩ := h1
    simp only [evL] at h2
    split at h2
    · rename_i y ys' hy hys
      obtain rfl := Option.some.inj h2
      obtain ⟨e1, e2⟩ := evL_spec h xs r ys' hr hys
      refine ⟨by simp [e1], ?_⟩
      intro i z hz
      cases i with
      | zero => simp at hz; subst hz; exact ⟨x, rfl, by rw [← opd_to ho]; exact h.ev hy⟩
      | succ i => simp at hz; simpa using e2 i z hz
    · simp at h2
/-- A value that may be stored as it is. -/
theorem SV.store {es : Nat} {y : AV} {u : Value} (h : SV w F env rt y u) (hs : storE es y = true) : u.cells.size = es ∧ y.cells.length = es ∧ ∀ (j : Nat) c v, y.cells[j]? = some c → u.cells[j]? = some v → Rep w F c v E0 := by
  have hs' := hs
  simp only [storE, Bool.and_eq_true, beq_iff_eq] at hs'
  obtain ⟨k1, k2⟩ := h.cells hs'.1.1
  refine ⟨by rw [k1]; exact hs'.1.2, hs'.1.2, fun j c v hc hv => (k2 j c v hc hv).rep ?_⟩
  exact List.all_eq_true.1 hs'.2 c (List.mem_of_getElem? hc)
theorem run_buildSlice0 (w : World) (t e : TypeId) (es : Nat) (hu : P.underlying t = some (.slice e)) (hs : sizeT P e = some es) :
    (Instr.buildSlice t 0 #[]).run P w = .ok (.slice (some ⟨w.heap.size, 0, none⟩) 0 0) (w.alloc (.cells #[] e)) := by
  simp [Instr.buildSlice, run_underlying hu, run_sizeOf hs, Instr.fill, newRow]
  have : (Array.range 0) = #[] := by apply Array.ext'; simp
  rw [this, Array.map_empty]
/-- []E{..}, every place written, in order. -/
theorem lit_sound {o : Oper} {t : TypeId} {len : Nat} {parts : Array (Nat × Operand)} {os : List Opd} {e : TypeId} {z : Value} {es bytes d : Nat} {b : Bool} {K : Post} (hop : o.op = .buildSlice t len parts) (hidx : parts.toList.map (·.1) = List.range len)
    (hos : (parts.toList.map (·.2)).mapM opd = some os) (hi : mkInfo P t = some (e, z, es, bytes)) (hd : o.dst = some d) (hdn : d < n) (hn : n ≤ 1000) (hsmall : len * es ≤ 16777216)
    {st' : St} (hs : litFin d es st (evL st os) = some st') (hk : K st') : AOpC b P n o st K := by
  intro w F env a h
  have hI := mkInfo_spec hi
  obtain ⟨i, hi1, hi2, hi3, hi4⟩ := hI.parts
  cases hxs : evL st os with
  | none => simp [hxs, litFin] at hs
  | some xs =>
  simp only [hxs, litFin] at hs
  split at hs
  case isFalse => simp at hs
  rename_i hall
  obtain rfl := Option.some.inj hs
  have hall' : ∀ y ∈ xs, storE es y = true := List.all_eq_true.1 hall
  have hpl' := parts.toList.length_map (f := (·.1))
  obtain ⟨hxl, hxg⟩ := evL_spec h _ _ _ hos hxs
  have hplen : parts.toList.length = len := by rw [← hpl', hidx, List.length_range]
  rw [List.length_map, hplen] at hxl
  by_cases hlen0 : len = 0
  · subst hlen0
    have hp0 : parts = #[] := by
      have : parts.toList = [] := List.eq_nil_of_length_eq_zero hplen
      exact Array.toList_inj.1 (by simpa using this)
    have hx0 : xs = [] := List.eq_nil_of_length_eq_zero hxl
    subst hx0
    have hexec : (execOp a.eval o).run P w = .ok (.value (.slice (some ⟨w.heap.size, 0, none⟩) 0 0)) (w.alloc (.cells #[] e)) := by
      simp only [execOp, hop, hp0, Sem.run_bind, Array.map_empty, run_buildSlice0 w t e es hI.under (by simp [sizeT, hi1, hi3]), Result.andThen_ok, Sem.run_pure]
    simp only [Oper.wp, hexec, Oper.upon, hd]
    have hbel : Below w.heap.size w (w.alloc (.cells #[] e)) := (Below.refl _ _).alloc (Nat.le_refl _) _
    refine ⟨fun _ => hbel, ?_⟩
    have hrep : Rep (w.alloc (.cells #[] e)) (fun b a => F b a ∨ E0 b a) (.own es []) (.slice (some ⟨w.heap.size, 0, none⟩) ([] : List AV).length 0) E0 := by
      refine (Rep.freshOwn (B := w.heap.size) (cap := 0) hI.pos (by simp) (Blk_alloc (by simp)) (by simp) (by simp)).congr ?_
      intro b a; simp
    obtain ⟨k1, k2⟩ := h.newRoot hbel (r := 2000 + d) (pin_loc hdn hn 1 (by omega)) (x := .own es []) (l := .val (.slice (some ⟨w.heap.size, 0, none⟩) ([] : List AV).length 0)) (S := E0) (fun _ _ h => h.elim) ⟨rfl, hrep⟩ ⟨fun h => by simp [VB] at h; omega, fun _ => ⟨_, rfl⟩⟩
    exact ⟨_, _, _, hk, k1.set hdn (sl_new' hrep), k2⟩
  have hlen0 : 0 < len := by omega
  let us : List Value := parts.toList.map fun x => a.eval x.2
  have husl : us.length = len := by simp only [us, List.length_map]; exact hplen
  -- the values' cells
  have hus : ∀ (k : Nat) (u : Value), us[k]? = some u → ∃ y, xs[k]? = some y ∧ SV w F env st.rt y u ∧ storE es y = true := by
    intro k u hu
    have hlt : k < len := by rw [← husl]; exact (List.getElem?_eq_some_iff.1 hu).1
    have hxk : xs[k]? = some xs[k] := List.getElem?_eq_getElem (by omega)
    obtain ⟨x, hx1, hx2⟩ := hxg k _ hxk
    have hue : u = a.eval x := by
      simp only [us, List.getElem?_map, Option.map_eq_some_iff] at hu hx1
      obtain ⟨q, hq, rfl⟩ := hu
      obtain ⟨q', hq', rfl⟩ := hx1
      rw [hq] at hq'
      rw [Option.some.inj hq']
    exact ⟨_, hxk, by rw [hue]; exact hx2, hall' _ (List.mem_of_getElem? hxk)⟩
  have hsz : ∀ v ∈ us, v.cells.size = es := by
    intro v hv
    obtain ⟨k, hk'⟩ := List.getElem?_of_mem hv
    obtain ⟨y, _, hy, hst⟩ := hus k v hk'
    exact (hy.store hst).1
  have hfill := Great.fill_whole hI.pos us ((Array.range (len * i.size)).map (z.cells[· % z.cells.size]!)) hsz (by simp [husl, hi3])
  have hparts : (parts.map fun (i, x) => (i, a.eval x)).toList = ((us.zipIdx 0).map fun x => (x.2, x.1)) := by
    rw [Array.toList_map]
    apply List.ext_getElem?
    intro k
    simp only [List.getElem?_map, List.getElem?_zipIdx, us]
    cases hp : parts.toList[k]? with
    | none => simp
    | some q =>
      have : q.1 = k := by
        have h1' : (parts.toList.map (·.1))[k]? = some q.1 := by rw [List.getElem?_map, hp]; rfl
        rw [hidx, List.getElem?_range (by rw [← hplen]; exact (List.getElem?_eq_some_iff.1 hp).1)] at h1'
        exact (Option.some.inj h1').symm
      simp [this]
  have hrun := run_buildSlice (P := P) w t e len (parts.map fun (i, x) => (i, a.eval x)) _ i z hI.under hi1 hi2 (by rw [hi3]; omega) (by rw [hi3]; have := Nat.mul_pos hlen0 hI.pos; omega) (by rw [hparts]; simp only [hi3] at hfill ⊢; exact hfill)
  have hexec : (execOp a.eval o).run P w = .ok (.value (.slice (some ⟨w.heap.size, 0, none⟩) len len)) (w.alloc (.cells (us.flatMap fun v => v.cells.toList).toArray e)) := by
    simp only [execOp, hop, Sem.run_bind, hrun, Result.andThen_ok, Sem.run_pure]
  simp only [Oper.wp, hexec, Oper.upon, hd]
  have hbel : Below w.heap.size w (w.alloc (.cells (us.flatMap fun v => v.cells.toList).toArray e)) := (Below.refl _ _).alloc (Nat.le_refl _) _
  refine ⟨fun _ => hbel, ?_⟩
  have hflat : (us.flatMap fun v => v.cells.toList) = (us.map fun v => v.cells.toList).flatten := List.flatMap_def ..
  have hles : ∀ vs ∈ us.map fun v => v.cells.toList, vs.length = es := by
    intro vs hvs
    obtain ⟨v, hv, rfl⟩ := List.mem_map.1 hvs
    simpa using hsz v hv
  have hrep : Rep (w.alloc (.cells (us.flatMap fun v => v.cells.toList).toArray e)) (fun b a => F b a ∨ (b = w.heap.size ∧ a < len * es)) (.own es xs) (.slice (some ⟨w.heap.size, 0, none⟩) xs.length len) (fun b a => b = w.heap.size ∧ a < len * es) := by
    refine Rep.freshOwn hI.pos (by omega) (Blk_alloc ?_) ?_ ?_
    · rw [hflat]
      simp only [List.size_toArray, flatten_len _ hles, List.length_map, husl]
      omega
    · intro y hy
      exact (storE_spec (hall' y hy)).1
    · intro k y jj c hy hc
      have hlt : k < us.length := by rw [husl, ← hxl]; exact (List.getElem?_eq_some_iff.1 hy).1
      obtain ⟨y', hy', hsv, hst⟩ := hus k _ (List.getElem?_eq_getElem hlt)
      rw [hy] at hy'
      obtain rfl := Option.some.inj hy'
      obtain ⟨e1, e2, e3⟩ := hsv.store hst
      have hjj : jj < es := by rw [← e2]; exact (List.getElem?_eq_some_iff.1 hc).1
      have hv : us[k].cells[jj]? = some (us[k].cells[jj]'(by rw [e1]; exact hjj)) := Array.getElem?_eq_getElem _
      refine ⟨_, ?_, (e3 jj c _ hc hv).keep ⟨⟨E0, Agree.below hbel _, fun _ _ h => h.elim, fun _ _ _ h => h⟩, ?_⟩⟩
      · rw [cell_alloc_new, List.getElem?_toArray, hflat, flatMap_get hI.pos _ _ _ hles hjj, List.getElem?_map, List.getElem?_eq_getElem hlt, Option.map_some, Option.bind_some]
        simp
      · rintro b a (hh | ⟨rfl, _⟩)
        · exact .inl hh
        · exact .inr (Nat.le_refl _)
  obtain ⟨k1, k2⟩ := h.newRoot hbel (r := 2000 + d) (pin_loc hdn hn 1 (by omega)) (x := .own es xs) (l := .val (.slice (some ⟨w.heap.size, 0, none⟩) xs.length len)) (S := fun b a => b = w.heap.size ∧ a < len * es) (by rintro b a ⟨rfl, _⟩; simp) ⟨rfl, hrep⟩ ⟨fun h => by simp [VB] at h; omega, fun _ => ⟨_, rfl⟩⟩
  have := k1.set hdn (sl_new' hrep)
  rw [hxl] at this k2
  exact ⟨_, _, _, by rw [hxl] at hk; exact hk, this, k2⟩
/-- []E{} as a list that has no room. -/
theorem litE_sound {o : Oper} {t : TypeId} {len : Nat} {parts : Array (Nat × Operand)} {e : TypeId} {z : Value} {es bytes d : Nat} {b : Bool} {K : Post} (hop : o.op = .buildSlice t len parts) (hidx : parts.toList.map (·.1) = List.range len)
    (hos : (parts.toList.map (·.2)).mapM opd = some []) (hi : mkInfo P t = some (e, z, es, bytes)) (hd : o.dst = some d) (hdn : d < n) (hn : n ≤ 1000)
    (hk : K ((st.new (1000 + d) (.agg [])).set d (.sa ⟨1000 + d, [], 0⟩ es 0 0))) : AOpC b P n o st K := by
  intro w F env a h
  have hI := mkInfo_spec hi
  obtain ⟨i, hi1, hi2, hi3, hi4⟩ := hI.parts
  have hp0 : parts = #[] := by
    have h1 := mapM_some_length hos
    simp only [List.length_nil, List.length_map] at h1
    have : parts.toList = [] := List.eq_nil_of_length_eq_zero h1.symm
    exact Array.toList_inj.1 (by simpa using this)
  subst hp0
  have hl0 : len = 0 := by
    have := congrArg List.length hidx
    simpa using this.symm
  subst hl0
  have hexec : (execOp a.eval o).run P w = .ok (.value (.slice (some ⟨w.heap.size, 0, none⟩) 0 0)) (w.alloc (.cells #[] e)) := by
    simp only [execOp, hop, Sem.run_bind, Array.map_empty, run_buildSlice0 w t e es hI.under (by simp [sizeT, hi1, hi3]), Result.andThen_ok, Sem.run_pure]
  simp only [Oper.wp, hexec, Oper.upon, hd]
  have hbel : Below w.heap.size w (w.alloc (.cells #[] e)) := (Below.refl _ _).alloc (Nat.le_refl _) _
  refine ⟨fun _ => hbel, ?_⟩
  have hnd : Nd (w.alloc (.cells #[] e)) (fun b a => F b a ∨ (b = w.heap.size ∧ a < 0)) (AV.agg []).cells w.heap.size 0 (fun b a => b = w.heap.size ∧ a < 0) :=
    Nd.fresh rfl (Blk_alloc (Nat.le_refl _)) (fun i c hc => by simp [AV.cells] at hc)
  obtain ⟨k1, k2⟩ := h.newRoot hbel (r := 1000 + d) (pin_loc hdn hn 0 (by omega)) (x := .agg []) (l := .mem w.heap.size 0) (S := fun b a => b = w.heap.size ∧ a < 0) (by rintro b a ⟨rfl, _⟩; simp) hnd ⟨fun _ => ⟨_, _, rfl⟩, fun h => by simp [VB] at h; omega⟩
  refine ⟨_, _, _, hk, k1.set hdn ?_, k2⟩
  refine ⟨w.heap.size, 0, 0, by simp only [rloc, St.new_get, Option.bind_some, if_true, ploc, hopLoc, ptrTo, Option.map_some], ?_⟩
  unfold SaOk
  rw [if_neg (by have := hI.pos; omega)]
  exact ⟨rfl, Nat.le_refl _, .inl rfl⟩
end
end Go.Proofs.YthlehngbadianaaDoor.Ow
namespace Go.Proofs.YthlehngbadianaaDoor.Ow
open Go Go.RowKit
def AV.putCells (z : AV) (j : Nat) : List AV → AV
  | [c] => z.setCell j c
  | cs => match z with
    | .agg l => .agg (splice l j cs)
    | .tup l => .tup (splice l j cs)
    | z => z
theorem splice_one {α : Type} (l : List α) (j : Nat) (c : α) (h : j < l.length) : splice l j [c] = l.set j c := by
  simp only [splice, List.length_singleton, List.singleton_append]
  rw [List.set_eq_take_append_cons_drop, if_pos h]
theorem AV.putCells_cells {z : AV} {j : Nat} {cs : List AV} (h1 : ∀ c ∈ cs, c.one = true) (h2 : j + cs.length ≤ z.cells.length) (h3 : 0 < cs.length) : (z.putCells j cs).cells = splice z.cells j cs := by
  cases cs with
  | nil => simp at h3
  | cons c cs =>
    cases cs with
    | nil =>
      simp only [AV.putCells]
      rw [AV.cells_setCell _ _ _ (h1 c (by simp)), splice_one _ _ _ (by simp at h2; omega)]
    | cons c2 cs =>
      cases hz : z.one with
      | true =>
        rw [AV.cells_one hz] at h2
        simp at h2
        omega
      | false => cases z <;> simp [AV.one] at hz <;> rfl
def cellPut (c : AV) : AV := if stor c then c else .junk
theorem cellPut_one {c : AV} (h : c.one = true) : (cellPut c).one = true := by
  unfold cellPut; split
  · exact h
  · rfl
def rfNew (ok : AV → Bool) (r : Nat) : Nat → List AV → List (Nat × Nat × AV)
  | _, [] => []
  | j, c :: cs => if stor c then rfNew ok r (j + 1) cs else (r, j, cut1 ok c) :: rfNew ok r (j + 1) cs
theorem rfNew_mem (ok : AV → Bool) (r : Nat) : ∀ (cs : List AV) (j : Nat) (e : Nat × Nat × AV), e ∈ rfNew ok r j cs → ∃ i c, cs[i]? = some c ∧ e = (r, j + i, cut1 ok c)
  | [], j, e, h => by simp [rfNew] at h
  | c :: cs, j, e, h => by
    simp only [rfNew] at h
    split at h
    · obtain ⟨i, c', h1, h2⟩ := rfNew_mem ok r cs (j + 1) e h
      exact ⟨i + 1, c', by simpa using h1, by rw [h2]; simp; omega⟩
    · rcases List.mem_cons.1 h with rfl | h
      · exact ⟨0, c, rfl, rfl⟩
      · obtain ⟨i, c', h1, h2⟩ := rfNew_mem ok r cs (j + 1) e h
        exact ⟨i + 1, c', by simpa using h1, by rw [h2]; simp; omega⟩
/-- The store of a value that owns nothing. -/
def storeL (m : Nat) (st : St) (p : Pl) (y : AV) : Option AV → Option AV → Option St
  | some x, some z =>
    if ntup y = true ∧ y.cells.length = m ∧ p.j + m ≤ z.cells.length ∧ 0 < m then
      if y.cells.all stor then if p.path = [] → p.r < VB then some (st.setC p.r p.path p.j (p.j + m) (x.setSub p.path (z.putCells p.j y.cells))) else none
      else if p.path = [] ∧ p.r < VB then
        let st1 := st.setC p.r p.path p.j (p.j + m) (x.setSub p.path (z.putCells p.j (y.cells.map cellPut)))
        some { st1 with rf := rfNew (surv1 p.r p.path.length p.j (p.j + m)) p.r p.j y.cells ++ st1.rf }
      else none
    else none
  | _, _ => none
/-- The store of a list: it is owned there from then on. -/
def storeM2 (st1 : St) (p : Pl) (es : Nat) (ys : List AV) : Option AV → Option AV → Option St
  | some x, some z => if p.j < z.cells.length ∧ (p.path = [] → p.r < VB) then some (st1.setC p.r p.path p.j (p.j + 1) (x.setSub p.path (z.setCell p.j (.own es ys)))) else none
  | _, _ => none
def storeM1 (st : St) (p q : Pl) (es off len : Nat) : Option AV → Option St
  | some (.own es' xs) => if es' = es ∧ off + len ≤ xs.length then let st1 := takeL st q; storeM2 st1 p es ((xs.drop off).take len) (st1.rt.get p.r) (st1.node p) else none
  | _ => none
def storeP (m : Nat) (st : St) (p : Pl) (y : AV) : Option St :=
  match y with
  | .sl q es off len => if (VB ≤ q.r ∧ q.path = [] ∧ q.r ≠ p.r) ∨ q = p then if m = 1 then storeM1 st p q es off len (cellAt st.rt q.r q.path q.j) else none else storeL m st p y (st.rt.get p.r) (st.node p)
  | y => storeL m st p y (st.rt.get p.r) (st.node p)
def store1 (m : Nat) (st : St) : Option AV → Option AV → Option St
  | some (.ref p), some y => storeP m st p y
  | _, _ => none
section
variable {P : Program} {w : World} {F X : Fp} {env : Nat → RLoc} {n : Nat} {a : Act} {st : St} {rt : Al}
theorem run_storeAt {B o m j l : Nat} {ty : TypeId} {v : Value} (hsz : sizeT P ty = some m) (hvs : v.cells.size = m) (hones : ∀ x ∈ v.cells.toList, x.oneCell' = true) (hj : j + m ≤ l)
    (hc : ∀ i, i < l → (w.cell? ⟨B, o + i, none⟩).isSome = true ∧ w.frozen? ⟨B, o + i, none⟩ = false) :
    (Instr.storeAt ty (.pointer (some ⟨B, o + j, none⟩)) v).run P w = .ok () (w.setCells B (o + j) v.cells.toList) := by
  have hst := run_storeCells_cells (P := P) B (o + j) v.cells.toList 0 w
    (fun i hi => by have := (hc (j + i) (by simp at hi; omega)).1; rwa [← Nat.add_assoc] at this)
    (fun i hi => by have := (hc (j + i) (by simp at hi; omega)).2; rwa [← Nat.add_assoc] at this) hones
  simp only [Nat.add_zero] at hst
  simp only [Instr.storeAt, Instr.sureAddr, storeVar, Sem.run_bind, Sem.run_pure, Result.andThen_ok, run_sizeOf hsz, hvs, ne_eq, not_true_eq_false, if_false, hst]
theorem zip_c (cs : List AV) (vs : List Value) (h : vs.length = cs.length) : (List.zipWith (fun c v => (⟨c, v, E0⟩ : Put)) cs vs).map (·.c) = cs := by
  induction cs generalizing vs with
  | nil => simp
  | cons c cs ih =>
    cases vs with
    | nil => simp at h
    | cons v vs => simp only [List.zipWith_cons_cons, List.map_cons, ih vs (by simpa using h)]
theorem zip_v (cs : List AV) (vs : List Value) (h : vs.length = cs.length) : (List.zipWith (fun c v => (⟨c, v, E0⟩ : Put)) cs vs).map (·.v) = vs := by
  induction cs generalizing vs with
  | nil => cases vs with
    | nil => rfl
    | cons v vs => simp at h
  | cons c cs ih =>
    cases vs with
    | nil => simp at h
    | cons v vs => simp only [List.zipWith_cons_cons, List.map_cons, ih vs (by simpa using h)]
theorem zip_mem (cs : List AV) (vs : List Value) (e : Put) (h : e ∈ List.zipWith (fun c v => (⟨c, v, E0⟩ : Put)) cs vs) : ∃ i : Nat, cs[i]? = some e.c ∧ vs[i]? = some e.v ∧ e.S = E0 := by
  obtain ⟨i, hi⟩ := List.getElem?_of_mem h
  rw [List.getElem?_zipWith] at hi
  split at hi
  · rename_i c v h1 h2
    obtain rfl := Option.some.inj hi
    exact ⟨i, h1, h2, rfl⟩
  · simp at hi
/-- What the store of cells needs. -/
theorem Rel.putLeaf (h : Rel w F E0 env n a st) {r : Nat} {x z : AV} {path : List Hop} {j : Nat} (hx : st.rt.get r = some x) (hz : x.sub path = some z) (hm : path = [] → r < VB) {cs : List AV} {vs : List Value} (hl : vs.length = cs.length) (hj : j + cs.length ≤ z.cells.length) (h0 : 0 < cs.length)
    (hp : ∀ (i : Nat) c v, cs[i]? = some c → vs[i]? = some v → Rep w F c v E0) :
    ∃ B o, rloc w env st.rt r path = some (.mem B o) ∧ (∀ i, i < z.cells.length → (w.cell? ⟨B, o + i, none⟩).isSome = true ∧ w.frozen? ⟨B, o + i, none⟩ = false) ∧
      Rel (w.setCells B (o + j) vs) F E0 env n a (st.setC r path j (j + cs.length) (x.setSub path (z.putCells j cs))) ∧ Tr w F env (w.setCells B (o + j) vs) F env := by
  have hl2 : (List.zipWith (fun c v => (⟨c, v, E0⟩ : Put)) cs vs).length = cs.length := by simp [hl]
  have hones : ∀ c ∈ cs, c.one = true := by
    intro c hc
    obtain ⟨i, hi⟩ := List.getElem?_of_mem hc
    have hiv : i < vs.length := by rw [hl]; exact (List.getElem?_eq_some_iff.1 hi).1
    exact (hp i c _ hi (List.getElem?_eq_getElem hiv)).avone
  obtain ⟨B, o, h1, h2, h3⟩ := h.puts hx hz hm (j := j) (List.zipWith (fun c v => (⟨c, v, E0⟩ : Put)) cs vs) (by rw [hl2]; exact hj) (by
    intro e he
    obtain ⟨i, e1, e2, e3⟩ := zip_mem _ _ _ he
    rw [e3]
    exact ⟨hp i _ _ e1 e2, fun _ _ h => h⟩) (by
    refine List.pairwise_of_forall_mem_list ?_
    intro e he e' he' b a hs
    obtain ⟨_, _, _, e3⟩ := zip_mem _ _ _ he
    rw [e3] at hs
    exact hs.elim) (X' := E0) (fun _ _ h => h.elim) (z' := z.putCells j cs) (by rw [zip_c _ _ hl]; exact AV.putCells_cells hones hj h0)
  rw [zip_v _ _ hl, hl2] at h3
  refine ⟨B, o, h1, h2, h3, ⟨⟨fun b a => b = B ∧ o + j ≤ a ∧ a < o + j + vs.length, Agree.setCells B vs (o + j) w, ?_, fun _ _ h => h.elim⟩, fun _ _ h => .inl h⟩, fun _ _ => rfl⟩
  rintro b a ⟨rfl, h4, h5⟩
  obtain ⟨T, ok, _⟩ := h.ok
  obtain ⟨B', o', Tz, g1, g2, g3, _⟩ := root_lens ok hx hz (fun e => (h.kind r x hx).1 (hm e))
  rw [h1] at g1
  obtain ⟨rfl, rfl⟩ : b = B' ∧ o = o' := by simpa using g1
  obtain ⟨_, _, _, _, _, _, _, _, hT⟩ := g2
  exact ok.sub _ _ _ _ hx (g3 _ _ ((hT _ _).2 (.inl ⟨rfl, by omega, by omega⟩)))
/-- References are laid beside. -/
theorem Rel.addRf (h : Rel w F X env n a st) (l : List (Nat × Nat × AV)) (hl : ∀ e ∈ l, ∃ B o u, env e.1 = .mem B o ∧ (∃ x, st.rt.get e.1 = some x ∧ e.2.1 < x.cells.length) ∧ w.cell? ⟨B, o + e.2.1, none⟩ = some u ∧ LR w F env st.rt e.2.2 u) : Rel w F X env n a { st with rf := l ++ st.rf } :=
  ⟨h.ok, h.xsub, h.kind, h.sv, fun e he => (List.mem_append.1 he).elim (hl e) (h.rf e), h.size, h.defers⟩
theorem cutV_cells {ok : AV → Bool} {y : AV} {u : Value} {w' : World} {F' : Fp} {rt' : Al} (h : SV w' F' env rt' (cutV ok y) u) (hn : ntup y = true) {i : Nat} {c : AV} {v : Value} (hc : y.cells[i]? = some c) (hv : u.cells[i]? = some v) : LR w' F' env rt' (cut1 ok c) v := by
  by_cases hag : ∃ as, y = .agg as
  · obtain ⟨as, rfl⟩ := hag
    simp only [cutV, cut2] at h
    obtain ⟨us, rfl, hl, hr⟩ := h
    exact hr i (cut1 ok c) v (by simp only [AV.cells] at hc; rw [List.getElem?_map, hc]; rfl) hv
  · have hone : y.one = true := by cases y <;> simp_all [AV.one, ntup]
    have e : cutV ok y = cut1 ok y := by cases y <;> first | rfl | simp_all [AV.one, ntup]
    rw [e] at h
    have hlr := (SV_one (cut1_one y hone)).1 h
    rw [AV.cells_one hone] at hc
    rw [cells_of_one hlr.one] at hv
    cases i with
    | succ i => simp at hc
    | zero => simp at hc hv; subst hc hv; exact hlr
theorem node_get {p : Pl} {z : AV} (h : st.node p = some z) : ∃ x, st.rt.get p.r = some x ∧ x.sub p.path = some z := by
  simp only [St.node] at h
  cases hx : st.rt.get p.r with
  | none => simp [hx] at h
  | some x => rw [hx, Option.bind_some] at h; exact ⟨x, rfl, h⟩
theorem storeL_sound {o : Oper} {ty : TypeId} {xo yo : Operand} {ox oy : Opd} {m : Nat} {p : Pl} {y : AV} {K : Post} (hop : o.op = .store ty xo yo) (hd : o.dst = none) (hox : opd xo = some ox) (hoy : opd yo = some oy) (hsz : sizeT P ty = some m) (hx : st.ev ox = some (.ref p)) (hy : st.ev oy = some y)
    {st' : St} (hs : storeL m st p y (st.rt.get p.r) (st.node p) = some st') (hk : K st') : AOp P n o st K := by
  intro w F env a h
  cases hz : st.node p with
  | none => cases hxx : st.rt.get p.r <;> simp [hz, hxx, storeL] at hs
  | some z =>
    obtain ⟨x, hxr, hxz⟩ := node_get hz
    simp only [hz, hxr, storeL] at hs
    split at hs
    case isFalse => simp at hs
    rename_i hcond
    obtain ⟨c1, c2, c3, c4⟩ := hcond
    obtain ⟨B0, o0, k1, k2⟩ := h.ev hx
    rw [opd_to hox] at k2
    have hsv := h.ev hy
    rw [opd_to hoy] at hsv
    obtain ⟨e1, e2⟩ := hsv.cells c1
    have hones : ∀ v ∈ (a.eval yo).cells.toList, v.oneCell' = true := by
      intro v hv
      obtain ⟨i, hi⟩ := List.getElem?_of_mem hv
      have hiv : i < y.cells.length := by rw [← e1]; simpa using (List.getElem?_eq_some_iff.1 hi).1
      exact (e2 i _ v (List.getElem?_eq_getElem hiv) (by simpa using hi)).one
    have hvl : (a.eval yo).cells.toList.length = y.cells.length := by simpa using e1
    -- the run
    have hrun : ∀ {B o1 : Nat}, rloc w env st.rt p.r p.path = some (.mem B o1) → (∀ i, i < z.cells.length → (w.cell? ⟨B, o1 + i, none⟩).isSome = true ∧ w.frozen? ⟨B, o1 + i, none⟩ = false) →
        (execOp a.eval o).run P w = .ok .skip (w.setCells B (o1 + p.j) (a.eval yo).cells.toList) := by
      intro B o1 hl hcells
      rw [k1] at hl
      obtain ⟨rfl, rfl⟩ : B0 = B ∧ o0 = o1 := by simpa using hl
      have := run_storeAt (P := P) (j := p.j) (v := a.eval yo) hsz (by rw [e1, c2]) hones c3 hcells
      unfold execOp
      simp only [hop, Sem.run_bind, k2, this]
      rfl
    split at hs
    · rename_i hall
      split at hs
      case isFalse => simp at hs
      rename_i hvb
      obtain rfl := Option.some.inj hs
      obtain ⟨B, o1, g1, g2, g3, g4⟩ := h.putLeaf hxr hxz hvb (j := p.j) (cs := y.cells) (vs := (a.eval yo).cells.toList) hvl (by rw [c2]; exact c3) (by rw [c2]; exact c4) (fun i c v hc hv => (e2 i c v hc (by simpa using hv)).rep (List.all_eq_true.1 hall c (List.mem_of_getElem? hc)))
      simp only [Oper.wp, hrun g1 g2, Oper.upon, hd]
      rw [c2] at g3
      exact ⟨F, env, _, hk, g3, g4⟩
    · rename_i hall
      split at hs
      case isFalse => simp at hs
      rename_i hpath
      obtain ⟨hp, hvb⟩ := hpath
      obtain rfl := Option.some.inj hs
      obtain ⟨B, o1, g1, g2, g3, g4⟩ := h.putLeaf hxr hxz (fun _ => hvb) (j := p.j) (cs := y.cells.map cellPut) (vs := (a.eval yo).cells.toList) (by rw [List.length_map]; exact hvl) (by rw [List.length_map, c2]; exact c3) (by rw [List.length_map, c2]; exact c4) (by
        intro i c v hc hv
        rw [List.getElem?_map, Option.map_eq_some_iff] at hc
        obtain ⟨c0, hc0, rfl⟩ := hc
        have hlr := e2 i c0 v hc0 (by simpa using hv)
        unfold cellPut
        split
        · rename_i hst; exact hlr.rep hst
        · exact .junk hlr.one fun _ _ h => h)
      simp only [Oper.wp, hrun g1 g2, Oper.upon, hd]
      rw [List.length_map, c2] at g3
      -- the operand's slot, as it is told behind
      have hslot : ∀ (i : Nat) c v, y.cells[i]? = some c → (a.eval yo).cells[i]? = some v → LR (w.setCells B (o1 + p.j) (a.eval yo).cells.toList) F env (st.rt.set p.r (x.setSub p.path (z.putCells p.j (y.cells.map cellPut)))) (cut1 (surv1 p.r p.path.length p.j (p.j + m)) c) v := by
        intro i c v hc hv
        cases oy with
        | s t =>
          have hg := g3.sv t (cutV (surv1 p.r p.path.length p.j (p.j + m)) y) (by
            have hy' : st.sl.get t = some y := hy
            simp only [St.setC, cutSl_get, hy', Option.map_some])
          have he : a.eval yo = a.tmps.getD t undef := by rw [← opd_to hoy]; rfl
          rw [← he] at hg
          exact cutV_cells hg c1 hc hv
        | c k =>
          simp only [St.ev] at hy
          split at hy
          · rename_i hk1
            obtain rfl := Option.some.inj hy
            simp [AV.cells, stor, stor1] at hall
          · simp at hy
        | g f =>
          simp only [St.ev, Option.some.injEq] at hy
          subst hy
          simp [AV.cells, stor] at hall
      refine ⟨F, env, _, hk, g3.addRf _ ?_, g4⟩
      intro e he
      obtain ⟨i, c, hc, rfl⟩ := rfNew_mem _ _ _ _ _ he
      have hil := (List.getElem?_eq_some_iff.1 hc).1
      have hv : (a.eval yo).cells[i]? = some ((a.eval yo).cells[i]'(by rw [e1]; exact hil)) := Array.getElem?_eq_getElem _
      obtain ⟨B2, o2, hB2⟩ := (h.kind p.r x hxr).1 hvb
      have hB : B = B2 ∧ o1 = o2 := by
        rw [hp] at g1
        simp only [rloc, hxr, hB2, Option.bind_some, ploc, hopLoc, ptrTo, Option.map_some, Option.some.injEq, RLoc.mem.injEq] at g1
        exact ⟨g1.1.symm, g1.2.symm⟩
      obtain ⟨rfl, rfl⟩ := hB
      have hzx : z = x := by rw [hp] at hxz; simpa [AV.sub] using hxz.symm
      refine ⟨B, o1, _, hB2, ⟨x.setSub p.path (z.putCells p.j (y.cells.map cellPut)), by simp only [St.setC, Al.get_set, if_true], ?_⟩, ?_, hslot i c _ hc hv⟩
      · rw [hp]
        simp only [AV.setSub]
        rw [AV.putCells_cells (by
          intro c' hc'
          obtain ⟨c0, hc0, rfl⟩ := List.mem_map.1 hc'
          obtain ⟨i0, hi0⟩ := List.getElem?_of_mem hc0
          exact cellPut_one (e2 i0 c0 _ hi0 (Array.getElem?_eq_getElem (by rw [e1]; exact (List.getElem?_eq_some_iff.1 hi0).1))).avone) (by rw [List.length_map, c2]; exact c3) (by rw [List.length_map, c2]; exact c4)]
        simp only [splice, List.length_append, List.length_take, List.length_drop, List.length_map]
        omega
      · have := setCells_in B (a.eval yo).cells.toList (o1 + p.j) w i ((a.eval yo).cells[i]'(by rw [e1]; exact hil)) (fun j' hj' => by
          have := (g2 (p.j + j') (by rw [hvl] at hj'; omega)).1
          rwa [← Nat.add_assoc] at this) (by simpa using hv)
        rw [Nat.add_assoc] at this
        exact this
theorem storeM_sound {o : Oper} {ty : TypeId} {xo yo : Operand} {ox oy : Opd} {p q : Pl} {es off len : Nat} {K : Post} (hop : o.op = .store ty xo yo) (hd : o.dst = none) (hox : opd xo = some ox) (hoy : opd yo = some oy) (hsz : sizeT P ty = some 1) (hx : st.ev ox = some (.ref p)) (hy : st.ev oy = some (.sl q es off len))
    (hne : (VB ≤ q.r ∧ q.path = [] ∧ q.r ≠ p.r) ∨ q = p) {st' : St} (hs : storeM1 st p q es off len (cellAt st.rt q.r q.path q.j) = some st') (hk : K st') : AOp P n o st K := by
  intro w F env a h
  obtain ⟨B0, o0, k1, k2⟩ := h.ev hx
  rw [opd_to hox] at k2
  have hsv : LR1 w F env st.rt (.sl q es off len) (a.eval yo) := by have := h.ev hy; rw [opd_to hoy] at this; exact this
  have hsv' := hsv
  obtain ⟨l, uc, xs, c1, c2, c3, c4, c5⟩ := hsv'
  simp only [c2, storeM1, true_and, c4, if_true] at hs
  obtain ⟨S, S2, g1, g2, g3, g4, _⟩ := h.takeL c2 hsv
  cases hz : (takeL st q).node p with
  | none => cases hxx : (takeL st q).rt.get p.r <;> simp [hz, hxx, storeM2] at hs
  | some z =>
    obtain ⟨x, hxr, hxz⟩ := node_get hz
    simp only [hz, hxr, storeM2] at hs
    split at hs
    case isFalse => simp at hs
    rename_i hcond
    obtain ⟨d1, d2⟩ := hcond
    obtain rfl := Option.some.inj hs
    have hone := g1.one
    obtain ⟨B, o1, r1, r2, r3⟩ := g3.puts hxr hxz d2 (j := p.j) [⟨.own es ((xs.drop off).take len), a.eval yo, S⟩] (by simp; omega) (by
      intro e he
      simp at he
      subst he
      exact ⟨g1, fun b a hh => .inr (g2 b a hh)⟩) (by simp) (X' := E0) (fun _ _ h => h.elim) (z' := z.setCell p.j (.own es ((xs.drop off).take len))) (by
        rw [AV.cells_setCell _ _ _ rfl, List.map_cons, List.map_nil, splice_one _ _ _ d1])
    -- the place lies where it lay
    have hloc : rloc w env st.rt p.r p.path = some (.mem B o1) := by
      by_cases hvb : VB ≤ q.r ∧ q.path = []
      · unfold takeL at r1
        rw [if_pos hvb] at r1
        have hpr : p.r ≠ q.r := by
          rcases hne with ⟨_, _, h5⟩ | rfl
          · exact Ne.symm h5
          · intro _
            cases hq : st.rt.get q.r with
            | none => simp [cellAt, hq] at c2
            | some xq =>
              obtain ⟨v, hv⟩ := (h.kind _ _ hq).2 hvb.1
              rw [hvb.2] at k1
              simp [rloc, hq, hv] at k1
        simp only [rloc, St.drop, Al.get_del, hpr, if_false] at r1
        exact r1
      · rcases hne with ⟨h5, h6, _⟩ | rfl
        · exact absurd ⟨h5, h6⟩ hvb
        · rw [g4 hvb] at r1; exact r1
    rw [k1] at hloc
    obtain ⟨rfl, rfl⟩ : B0 = B ∧ o0 = o1 := by simpa using hloc
    have hcells := cells_of_one hone
    have hrunS := run_storeAt (P := P) (j := p.j) (v := a.eval yo) hsz (by rw [hcells]; rfl) (by rw [hcells]; simpa using hone) (show p.j + 1 ≤ z.cells.length by omega) r2
    have hex : (execOp a.eval o).run P w = .ok .skip (w.setCells B0 (o0 + p.j) [a.eval yo]) := by
      rw [hcells] at hrunS
      unfold execOp
      simp only [hop, Sem.run_bind, k2, hrunS]
      rfl
    simp only [Oper.wp, hex, Oper.upon, hd]
    refine ⟨F, env, _, hk, r3, ⟨⟨fun b a => b = B0 ∧ o0 + p.j ≤ a ∧ a < o0 + p.j + 1, Agree.setCells B0 [a.eval yo] (o0 + p.j) w, ?_, fun _ _ h => h.elim⟩, fun _ _ h => .inl h⟩, fun _ _ => rfl⟩
    rintro b a' ⟨rfl, h4, h5⟩
    obtain ⟨T, ok, _⟩ := g3.ok
    obtain ⟨B', o', Tz, m1, m2, m3, _⟩ := root_lens ok hxr hxz (fun e => (g3.kind _ x hxr).1 (d2 e))
    rw [r1] at m1
    obtain ⟨rfl, rfl⟩ : b = B' ∧ o0 = o' := by simpa using m1
    obtain ⟨_, _, _, _, _, _, _, _, hT⟩ := m2
    exact ok.sub _ _ _ _ hxr (m3 _ _ ((hT _ _).2 (.inl ⟨rfl, by omega, by omega⟩)))
end
end Go.Proofs.YthlehngbadianaaDoor.Ow
