/- Slice literals, boxes, stores. -/
import Derived.Test.YthlehngbadianaaOwFreezeFreeze2
set_option linter.unusedVariables false
set_option linter.unusedSimpArgs false
set_option linter.unnecessarySimpa false
namespace Go.Proofs.Ythlehngbadianaa.Ow
open Go Go.RowKit

def evL (st : St) : List Opd → Option (List AV)
  | [] => some []
  | o :: os => match st.ev o, evL st os with
    | some x, some xs => some (x :: xs)
    | _, _ => none
def litFin (d es : Nat) (st : St) : Option (List AV) → Option St
  | some xs => if xs.all (storE es) = true then some ((st.new (2000 + d) (.own es xs)).set d (.sl ⟨2000 + d, [], 0⟩ es 0 xs.length)) else none
  | none => none

section
variable {P : Program} {w : World} {F X : Fp} {env : Nat → RLoc} {n : Nat} {a : Act} {st : St} {rt : Al}

theorem evL_spec (h : Rel w F X env n a st) : ∀ (xs : List Operand) (os : List Opd) (ys : List AV), xs.mapM opd = some os → evL st os = some ys → ys.length = xs.length ∧ ∀ (i : Nat) (y : AV), ys[i]? = some y → ∃ x, xs[i]? = some x ∧ SV w F env st.rt y (a.eval x)
  | [], os, ys, h1, h2 => by simp at h1; subst h1; simp [evL] at h2; subst h2; simp
  | x :: xs, os, ys, h1, h2 => by
    simp only [List.mapM_cons, Option.pure_def, Option.bind_eq_bind, Option.bind_eq_some_iff, Option.some.injEq] at h1
    obtain ⟨o, ho, r, hr, rfl⟩ := h1
    simp only [evL] at h2
    split at h2
    · rename_i y ys' hy hys
      obtain rfl := Option.some.inj h2
      obtain ⟨e1, e2⟩ := evL_spec h xs r ys' hr hys
      refine ⟨by simp [e1], ?_⟩
      intro i z hz
      cases i with
      | zero => simp at hz; subst hz; exact ⟨x, rfl, by rw [← opd_to ho]; exact h.ev hy⟩
      | succ i => simp at hz; simpa using e2 i z hz
    · simp at h2

/-- A value that may be stored as it is. -/
theorem SV.store {es : Nat} {y : AV} {u : Value} (h : SV w F env rt y u) (hs : storE es y = true) : u.cells.size = es ∧ y.cells.length = es ∧ ∀ (j : Nat) c v, y.cells[j]? = some c → u.cells[j]? = some v → Rep w F c v E0 := by
  have hs' := hs
  simp only [storE, Bool.and_eq_true, beq_iff_eq] at hs'
  obtain ⟨k1, k2⟩ := h.cells hs'.1.1
  refine ⟨by rw [k1]; exact hs'.1.2, hs'.1.2, fun j c v hc hv => (k2 j c v hc hv).rep ?_⟩
  exact List.all_eq_true.1 hs'.2 c (List.mem_of_getElem? hc)

theorem run_buildSlice0 (w : World) (t e : TypeId) (es : Nat) (hu : P.underlying t = some (.slice e)) (hs : sizeT P e = some es) :
    (Instr.buildSlice t 0 #[]).run P w = .ok (.slice (some ⟨w.heap.size, 0, none⟩) 0 0) (w.alloc (.cells #[] e)) := by
  simp [Instr.buildSlice, run_underlying hu, run_sizeOf hs, Instr.fill, newRow]
  have : (Array.range 0) = #[] := by apply Array.ext'; simp
  rw [this, Array.map_empty]

/-- []E{..}, every place written, in order. -/
theorem lit_sound {o : Oper} {t : TypeId} {len : Nat} {parts : Array (Nat × Operand)} {os : List Opd} {e : TypeId} {z : Value} {es bytes d : Nat} {b : Bool} {K : Post} (hop : o.op = .buildSlice t len parts) (hidx : parts.toList.map (·.1) = List.range len)
    (hos : (parts.toList.map (·.2)).mapM opd = some os) (hi : mkInfo P t = some (e, z, es, bytes)) (hd : o.dst = some d) (hdn : d < n) (hn : n ≤ 1000) (hsmall : len * es ≤ 16777216)
    {st' : St} (hs : litFin d es st (evL st os) = some st') (hk : K st') : AOpC b P n o st K := by
  intro w F env a h
  have hI := mkInfo_spec hi
  obtain ⟨i, hi1, hi2, hi3, hi4⟩ := hI.parts
  cases hxs : evL st os with
  | none => simp [hxs, litFin] at hs
  | some xs =>
  simp only [hxs, litFin] at hs
  split at hs
  case isFalse => simp at hs
  rename_i hall
  obtain rfl := Option.some.inj hs
  have hall' : ∀ y ∈ xs, storE es y = true := List.all_eq_true.1 hall
  have hpl' := parts.toList.length_map (f := (·.1))
  obtain ⟨hxl, hxg⟩ := evL_spec h _ _ _ hos hxs
  have hplen : parts.toList.length = len := by rw [← hpl', hidx, List.length_range]
  rw [List.length_map, hplen] at hxl
  by_cases hlen0 : len = 0
  · subst hlen0
    have hp0 : parts = #[] := by
      have : parts.toList = [] := List.eq_nil_of_length_eq_zero hplen
      exact Array.toList_inj.1 (by simpa using this)
    have hx0 : xs = [] := List.eq_nil_of_length_eq_zero hxl
    subst hx0
    have hexec : (execOp a.eval o).run P w = .ok (.value (.slice (some ⟨w.heap.size, 0, none⟩) 0 0)) (w.alloc (.cells #[] e)) := by
      simp only [execOp, hop, hp0, Sem.run_bind, Array.map_empty, run_buildSlice0 w t e es hI.under (by simp [sizeT, hi1, hi3]), Result.andThen_ok, Sem.run_pure]
    simp only [Oper.wp, hexec, Oper.upon, hd]
    have hbel : Below w.heap.size w (w.alloc (.cells #[] e)) := (Below.refl _ _).alloc (Nat.le_refl _) _
    refine ⟨fun _ => hbel, ?_⟩
    have hrep : Rep (w.alloc (.cells #[] e)) (fun b a => F b a ∨ E0 b a) (.own es []) (.slice (some ⟨w.heap.size, 0, none⟩) ([] : List AV).length 0) E0 := by
      refine (Rep.freshOwn (B := w.heap.size) (cap := 0) hI.pos (by simp) (Blk_alloc (by simp)) (by simp) (by simp)).congr ?_
      intro b a; simp
    obtain ⟨k1, k2⟩ := h.newRoot hbel (r := 2000 + d) (pin_loc hdn hn 1 (by omega)) (x := .own es []) (l := .val (.slice (some ⟨w.heap.size, 0, none⟩) ([] : List AV).length 0)) (S := E0) (fun _ _ h => h.elim) ⟨rfl, hrep⟩ ⟨fun h => by simp [VB] at h; omega, fun _ => ⟨_, rfl⟩⟩
    exact ⟨_, _, _, hk, k1.set hdn (sl_new' hrep), k2⟩
  have hlen0 : 0 < len := by omega
  let us : List Value := parts.toList.map fun x => a.eval x.2
  have husl : us.length = len := by simp only [us, List.length_map]; exact hplen
  -- the values' cells
  have hus : ∀ (k : Nat) (u : Value), us[k]? = some u → ∃ y, xs[k]? = some y ∧ SV w F env st.rt y u ∧ storE es y = true := by
    intro k u hu
    have hlt : k < len := by rw [← husl]; exact (List.getElem?_eq_some_iff.1 hu).1
    have hxk : xs[k]? = some xs[k] := List.getElem?_eq_getElem (by omega)
    obtain ⟨x, hx1, hx2⟩ := hxg k _ hxk
    have hue : u = a.eval x := by
      simp only [us, List.getElem?_map, Option.map_eq_some_iff] at hu hx1
      obtain ⟨q, hq, rfl⟩ := hu
      obtain ⟨q', hq', rfl⟩ := hx1
      rw [hq] at hq'
      rw [Option.some.inj hq']
    exact ⟨_, hxk, by rw [hue]; exact hx2, hall' _ (List.mem_of_getElem? hxk)⟩
  have hsz : ∀ v ∈ us, v.cells.size = es := by
    intro v hv
    obtain ⟨k, hk'⟩ := List.getElem?_of_mem hv
    obtain ⟨y, _, hy, hst⟩ := hus k v hk'
    exact (hy.store hst).1
  have hfill := Great.fill_whole hI.pos us ((Array.range (len * i.size)).map (z.cells[· % z.cells.size]!)) hsz (by simp [husl, hi3])
  have hparts : (parts.map fun (i, x) => (i, a.eval x)).toList = ((us.zipIdx 0).map fun x => (x.2, x.1)) := by
    rw [Array.toList_map]
    apply List.ext_getElem?
    intro k
    simp only [List.getElem?_map, List.getElem?_zipIdx, us]
    cases hp : parts.toList[k]? with
    | none => simp
    | some q =>
      have : q.1 = k := by
        have h1' : (parts.toList.map (·.1))[k]? = some q.1 := by rw [List.getElem?_map, hp]; rfl
        rw [hidx, List.getElem?_range (by rw [← hplen]; exact (List.getElem?_eq_some_iff.1 hp).1)] at h1'
        exact (Option.some.inj h1').symm
      simp [this]
  have hrun := run_buildSlice (P := P) w t e len (parts.map fun (i, x) => (i, a.eval x)) _ i z hI.under hi1 hi2 (by rw [hi3]; omega) (by rw [hi3]; have := Nat.mul_pos hlen0 hI.pos; omega) (by rw [hparts]; simp only [hi3] at hfill ⊢; exact hfill)
  have hexec : (execOp a.eval o).run P w = .ok (.value (.slice (some ⟨w.heap.size, 0, none⟩) len len)) (w.alloc (.cells (us.flatMap fun v => v.cells.toList).toArray e)) := by
    simp only [execOp, hop, Sem.run_bind, hrun, Result.andThen_ok, Sem.run_pure]
  simp only [Oper.wp, hexec, Oper.upon, hd]
  have hbel : Below w.heap.size w (w.alloc (.cells (us.flatMap fun v => v.cells.toList).toArray e)) := (Below.refl _ _).alloc (Nat.le_refl _) _
  refine ⟨fun _ => hbel, ?_⟩
  have hflat : (us.flatMap fun v => v.cells.toList) = (us.map fun v => v.cells.toList).flatten := List.flatMap_def ..
  have hles : ∀ vs ∈ us.map fun v => v.cells.toList, vs.length = es := by
    intro vs hvs
    obtain ⟨v, hv, rfl⟩ := List.mem_map.1 hvs
    simpa using hsz v hv
  have hrep : Rep (w.alloc (.cells (us.flatMap fun v => v.cells.toList).toArray e)) (fun b a => F b a ∨ (b = w.heap.size ∧ a < len * es)) (.own es xs) (.slice (some ⟨w.heap.size, 0, none⟩) xs.length len) (fun b a => b = w.heap.size ∧ a < len * es) := by
    refine Rep.freshOwn hI.pos (by omega) (Blk_alloc ?_) ?_ ?_
    · rw [hflat]
      simp only [List.size_toArray, flatten_len _ hles, List.length_map, husl]
      omega
    · intro y hy
      exact (storE_spec (hall' y hy)).1
    · intro k y jj c hy hc
      have hlt : k < us.length := by rw [husl, ← hxl]; exact (List.getElem?_eq_some_iff.1 hy).1
      obtain ⟨y', hy', hsv, hst⟩ := hus k _ (List.getElem?_eq_getElem hlt)
      rw [hy] at hy'
      obtain rfl := Option.some.inj hy'
      obtain ⟨e1, e2, e3⟩ := hsv.store hst
      have hjj : jj < es := by rw [← e2]; exact (List.getElem?_eq_some_iff.1 hc).1
      have hv : us[k].cells[jj]? = some (us[k].cells[jj]'(by rw [e1]; exact hjj)) := Array.getElem?_eq_getElem _
      refine ⟨_, ?_, (e3 jj c _ hc hv).keep ⟨⟨E0, Agree.below hbel _, fun _ _ h => h.elim, fun _ _ _ h => h⟩, ?_⟩⟩
      · rw [cell_alloc_new, List.getElem?_toArray, hflat, flatMap_get hI.pos _ _ _ hles hjj, List.getElem?_map, List.getElem?_eq_getElem hlt, Option.map_some, Option.bind_some]
        simp
      · rintro b a (hh | ⟨rfl, _⟩)
        · exact .inl hh
        · exact .inr (Nat.le_refl _)
  obtain ⟨k1, k2⟩ := h.newRoot hbel (r := 2000 + d) (pin_loc hdn hn 1 (by omega)) (x := .own es xs) (l := .val (.slice (some ⟨w.heap.size, 0, none⟩) xs.length len)) (S := fun b a => b = w.heap.size ∧ a < len * es) (by rintro b a ⟨rfl, _⟩; simp) ⟨rfl, hrep⟩ ⟨fun h => by simp [VB] at h; omega, fun _ => ⟨_, rfl⟩⟩
  have := k1.set hdn (sl_new' hrep)
  rw [hxl] at this k2
  exact ⟨_, _, _, by rw [hxl] at hk; exact hk, this, k2⟩
end
end Go.Proofs.Ythlehngbadianaa.Ow
