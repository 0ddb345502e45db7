/- A program logic over the model: what a call does is shown of trees of data (part 1). It holds of every program of the model. -/
import Derived.Test.YthlehngbadianaaAi0
import Derived.Great.BuildSlice
import Derived.Orders
import Derived.Laws.IdiomCopy
/- A slice literal and append, over elements that own nothing. -/
set_option linter.unusedVariables false
set_option linter.unusedSimpArgs false
namespace Go.Proofs.Ythlehngbadianaa.Ai
open Go Go.RowKit

def plainC : AV → Option Value
  | .v x => some x
  | _ => none
/-- A value all of whose cells are plain, es of them: its cells. -/
def plainE (es : Nat) (x : AV) : Option (List Value) :=
  match x with
  | .tup _ _ => none
  | x => (x.cells.mapM plainC).bind fun vs => if vs.length = es then some vs else none

theorem mapM_plainC : ∀ (cs : List AV) (vs : List Value), cs.mapM plainC = some vs → cs = vs.map .v
  | [], vs, h => by simp at h; subst h; rfl
  | c :: cs, vs, h => by
    simp only [List.mapM_cons, Option.pure_def, Option.bind_eq_bind, Option.bind_eq_some_iff, Option.some.injEq] at h
    obtain ⟨v, hv, r, hr, rfl⟩ := h
    cases c <;> simp [plainC] at hv
    subst hv
    simp [mapM_plainC cs r hr]

theorem plainE_spec {es : Nat} {x : AV} {vs : List Value} (h : plainE es x = some vs) : x.cells = vs.map .v ∧ vs.length = es ∧ ∀ s cs, x ≠ .tup s cs := by
  unfold plainE at h
  split at h
  · simp at h
  · rename_i hx
    simp only [Option.bind_eq_some_iff] at h
    obtain ⟨vs', h1, h2⟩ := h
    split at h2
    · rename_i hl
      simp only [Option.some.injEq] at h2
      subst h2
      exact ⟨mapM_plainC _ _ h1, hl, fun s cs e => hx s cs e⟩
    · simp at h2

theorem mapM_plainE {es : Nat} : ∀ (xs : List AV) (vss : List (List Value)), xs.mapM (plainE es) = some vss → vss.length = xs.length ∧ ∀ (i : Nat) (x : AV), xs[i]? = some x → ∃ vs, vss[i]? = some vs ∧ plainE es x = some vs
  | [], vss, h => by simp at h; subst h; simp
  | x :: xs, vss, h => by
    simp only [List.mapM_cons, Option.pure_def, Option.bind_eq_bind, Option.bind_eq_some_iff, Option.some.injEq] at h
    obtain ⟨vs, hvs, r, hr, rfl⟩ := h
    obtain ⟨h1, h2⟩ := mapM_plainE xs r hr
    refine ⟨by simp [h1], ?_⟩
    intro i y hy
    cases i with
    | zero => simp at hy; subst hy; exact ⟨vs, rfl, hvs⟩
    | succ i => simp at hy; simpa using h2 i y hy

section
variable {P : Program} {w : World} {G : Gh} {n : Nat} {a : Act} {fr : Fr} {F : List Fr}

theorem VR_plain {R : Rt} {f : Nat} {es : Nat} {x : AV} {vs : List Value} {u : Value} (h : VR w G R f x u) (hp : plainE es x = some vs) : u.cells.toList = vs ∧ ∀ v ∈ vs, v.oneCell' = true := by
  obtain ⟨h1, h2, h3⟩ := plainE_spec hp
  obtain ⟨hs, ho, hr⟩ := h
  have hfl : u.cells.toList = flatV u := by
    cases hx : x.one with
    | true =>
      have hu : u.oneCell' = true := by cases x <;> simp_all [Shape, AV.one]
      rw [cells_of_one hu, flatV_of_one hu]
    | false =>
      cases x <;> simp [AV.one] at hx
      · obtain ⟨us, rfl, _⟩ := hs; rfl
      · exact absurd rfl (h3 _ _)
  have hfv : flatV u = vs := by
    rw [h1] at hr
    obtain ⟨hl, hg⟩ := (RVs_iff _ _).1 hr
    rw [List.length_map] at hl
    apply List.ext_getElem?
    intro i
    by_cases hi : i < vs.length
    · obtain ⟨u', hu', hv⟩ := hg i (.v vs[i]) (by simp [hi])
      rw [hu', List.getElem?_eq_getElem hi]
      cases f <;> (simp only [RV] at hv; rw [hv])
    · rw [List.getElem?_eq_none (by omega), List.getElem?_eq_none (by omega)]
  rw [hfl, hfv]
  exact ⟨rfl, by rw [← hfv]; exact ho⟩

theorem flatMap_get {es : Nat} (hpos : 0 < es) : ∀ (vss : List (List Value)) (i jj : Nat), (∀ vs ∈ vss, vs.length = es) → jj < es → vss.flatten[i * es + jj]? = (vss[i]?).bind (·[jj]?)
  | [], i, jj, _, _ => by simp
  | vs :: vss, i, jj, h, hj => by
    have hl := h vs (by simp)
    cases i with
    | zero =>
      simp only [List.flatten_cons, Nat.zero_mul, Nat.zero_add, List.getElem?_cons_zero, Option.bind_some]
      rw [List.getElem?_append_left (by omega)]
    | succ i =>
      simp only [List.flatten_cons, List.getElem?_cons_succ]
      rw [List.getElem?_append_right (by rw [Nat.add_mul]; omega), hl, show (i + 1) * es + jj - es = i * es + jj by rw [Nat.add_mul]; omega]
      exact flatMap_get hpos vss i jj (fun v hv => h v (by simp [hv])) hj

theorem flatten_len {es : Nat} : ∀ (vss : List (List Value)), (∀ vs ∈ vss, vs.length = es) → vss.flatten.length = vss.length * es
  | [], _ => by simp
  | vs :: vss, h => by
    simp only [List.flatten_cons, List.length_append, List.length_cons, h vs (by simp), flatten_len vss (fun v hv => h v (by simp [hv])), Nat.add_mul]
    omega

/-- A literal's values lie in its block. -/
theorem newAt_row {W : World} {e : TypeId} {es : Nat} (hpos : 0 < es) {xs : List AV} {vss : List (List Value)} (hm : xs.mapM (plainE es) = some vss) (hone : ∀ vs ∈ vss, ∀ v ∈ vs, v.oneCell' = true) {B o : Nat}
    (hc : ∀ k v, vss.flatten[k]? = some v → W.cell? ⟨B, o + k, none⟩ = some v) : NewAt W B o es xs ∧ Plains es xs := by
  obtain ⟨hl, hg⟩ := mapM_plainE xs vss hm
  have hles : ∀ vs ∈ vss, vs.length = es := by
    intro vs hvs
    obtain ⟨i, hi⟩ := List.getElem?_of_mem hvs
    have hlt : i < xs.length := by rw [← hl]; exact (List.getElem?_eq_some_iff.1 hi).1
    obtain ⟨vs', h1, h2⟩ := hg i xs[i] (List.getElem?_eq_getElem hlt)
    rw [hi] at h1
    obtain rfl := Option.some.inj h1
    exact (plainE_spec h2).2.1
  constructor
  · intro i y hy jj c hcj
    obtain ⟨vs, h1, h2⟩ := hg i y hy
    obtain ⟨e1, e2, _⟩ := plainE_spec h2
    rw [e1, List.getElem?_map, Option.map_eq_some_iff] at hcj
    obtain ⟨v, hv, rfl⟩ := hcj
    have hjj : jj < es := by rw [← e2]; exact (List.getElem?_eq_some_iff.1 hv).1
    refine ⟨v, ?_, hone vs (List.mem_of_getElem? h1) v (List.mem_of_getElem? hv), fun v' e => by simpa using e⟩
    have := hc (i * es + jj) v (by rw [flatMap_get hpos vss i jj hles hjj, h1]; exact hv)
    rw [← Nat.add_assoc] at this
    exact this
  · intro y hy
    obtain ⟨i, hi⟩ := List.getElem?_of_mem hy
    obtain ⟨vs, h1, h2⟩ := hg i y hi
    obtain ⟨e1, e2, _⟩ := plainE_spec h2
    refine ⟨by rw [e1]; simpa using e2, ?_⟩
    intro c hc
    rw [e1, List.mem_map] at hc
    obtain ⟨v, _, rfl⟩ := hc
    exact Or.inr ⟨v, rfl⟩

theorem mapM_evs (h : Rel w G n a fr F) : ∀ (xs : List Operand) (os : List Opd) (ys : List AV), xs.mapM opd = some os → os.mapM fr.ev = some ys → ys.length = xs.length ∧ ∀ (i : Nat) (y : AV), ys[i]? = some y → ∃ x, xs[i]? = some x ∧ VR w G (rootsOf (fr :: F)) F.length y (a.eval x)
  | [], os, ys, h1, h2 => by simp at h1; subst h1; simp at h2; subst h2; simp
  | x :: xs, os, ys, h1, h2 => by
    simp only [List.mapM_cons, Option.pure_def, Option.bind_eq_bind, Option.bind_eq_some_iff, Option.some.injEq] at h1
    obtain ⟨o, ho, r, hr, rfl⟩ := h1
    simp only [List.mapM_cons, Option.pure_def, Option.bind_eq_bind, Option.bind_eq_some_iff, Option.some.injEq] at h2
    obtain ⟨y, hy, s, hs, rfl⟩ := h2
    obtain ⟨e1, e2⟩ := mapM_evs h xs r s hr hs
    refine ⟨by simp [e1], ?_⟩
    intro i z hz
    cases i with
    | zero => simp at hz; subst hz; exact ⟨x, rfl, by rw [← opd_to ho]; exact h.ev hy⟩
    | succ i => simp at hz; simpa using e2 i z hz

/-- []E{..}, every place written, in order. -/
theorem AOp_lit {o : Oper} {t : TypeId} {len : Nat} {parts : Array (Nat × Operand)} {os : List Opd} {e : TypeId} {z : Value} {es bytes d : Nat} {b : Bool} {K : Post} (hop : o.op = .buildSlice t len parts) (hidx : parts.toList.map (·.1) = List.range len)
    (hos : (parts.toList.map (·.2)).mapM opd = some os) (hi : mkInfo P t = some (e, z, es, bytes)) (hd : o.dst = some d) (hdn : d < n) (hlen0 : 0 < len) (hsmall : len * es ≤ 16777216)
    {xs : List AV} (hxs : os.mapM fr.ev = some xs) {vss : List (List Value)} (hpl : xs.mapM (plainE es) = some vss) (hk : K ((fr.kill (.sl d)).set d (.own es xs)) F) : AOpC b P n o fr F K := by
  intro w G a h
  have hI := mkInfo_spec hi
  obtain ⟨i, hi1, hi2, hi3, hi4⟩ := hI.parts
  have hpl' := parts.toList.length_map (f := (·.1))
  obtain ⟨hxl, hxg⟩ := mapM_evs h _ _ _ hos hxs
  obtain ⟨hvl, hvg⟩ := mapM_plainE xs vss hpl
  have hplen : parts.toList.length = len := by rw [← hpl', hidx, List.length_range]
  rw [List.length_map, hplen] at hxl
  let us : List Value := parts.toList.map fun x => a.eval x.2
  have husl : us.length = len := by simp only [us, List.length_map]; exact hplen
  -- the values' cells
  have hus : ∀ (k : Nat) (u : Value), us[k]? = some u → ∃ vs, vss[k]? = some vs ∧ u.cells.toList = vs ∧ ∀ v ∈ vs, v.oneCell' = true := by
    intro k u hu
    have hlt : k < len := by rw [← husl]; exact (List.getElem?_eq_some_iff.1 hu).1
    have hxk : xs[k]? = some xs[k] := List.getElem?_eq_getElem (by omega)
    obtain ⟨x, hx1, hx2⟩ := hxg k _ hxk
    obtain ⟨vs, hv1, hv2⟩ := hvg k _ hxk
    have hue : u = a.eval x := by
      simp only [us, List.getElem?_map, Option.map_eq_some_iff] at hu hx1
      obtain ⟨q, hq, rfl⟩ := hu
      obtain ⟨q', hq', rfl⟩ := hx1
      rw [hq] at hq'
      rw [Option.some.inj hq']
    obtain ⟨e1, e2⟩ := VR_plain hx2 hv2
    exact ⟨vs, hv1, by rw [hue]; exact e1, e2⟩
  have hflat : (us.flatMap fun v => v.cells.toList) = vss.flatten := by
    rw [List.flatMap_def]
    congr 1
    apply List.ext_getElem?
    intro k
    rw [List.getElem?_map]
    by_cases hk' : k < len
    · have : us[k]? = some us[k] := List.getElem?_eq_getElem (by omega)
      obtain ⟨vs, hv1, hv2, _⟩ := hus k _ this
      rw [this, hv1]; simp [hv2]
    · rw [List.getElem?_eq_none (by omega), List.getElem?_eq_none (by omega)]; rfl
  have hsz : ∀ v ∈ us, v.cells.size = es := by
    intro v hv
    obtain ⟨k, hk'⟩ := List.getElem?_of_mem hv
    obtain ⟨vs, hv1, hv2, _⟩ := hus k v hk'
    have hlt : k < xs.length := by rw [← hvl]; exact (List.getElem?_eq_some_iff.1 hv1).1
    obtain ⟨vs', h1', h2'⟩ := hvg k xs[k] (List.getElem?_eq_getElem hlt)
    rw [hv1] at h1'
    obtain rfl := Option.some.inj h1'
    rw [← (plainE_spec h2').2.1, ← hv2]; simp
  have hfill := Great.fill_whole hI.pos us ((Array.range (len * i.size)).map (z.cells[· % z.cells.size]!)) hsz (by simp [husl, hi3])
  have hparts : (parts.map fun (i, x) => (i, a.eval x)).toList = ((us.zipIdx 0).map fun x => (x.2, x.1)) := by
    rw [Array.toList_map]
    apply List.ext_getElem?
    intro k
    simp only [List.getElem?_map, List.getElem?_zipIdx, us]
    cases hp : parts.toList[k]? with
    | none => simp
    | some q =>
      have : q.1 = k := by
        have h1' : (parts.toList.map (·.1))[k]? = some q.1 := by rw [List.getElem?_map, hp]; rfl
        rw [hidx, List.getElem?_range (by rw [← hplen]; exact (List.getElem?_eq_some_iff.1 hp).1)] at h1'
        exact (Option.some.inj h1').symm
      simp [this]
  have hrun := run_buildSlice (P := P) w t e len (parts.map fun (i, x) => (i, a.eval x)) _ i z hI.under hi1 hi2 (by rw [hi3]; omega) (by rw [hi3]; have := Nat.mul_pos hlen0 hI.pos; omega) (by rw [hparts]; simp only [hi3] at hfill ⊢; exact hfill)
  have hexec : (execOp a.eval o).run P w = .ok (.value (.slice (some ⟨w.heap.size, 0, none⟩) len len)) (w.alloc (.cells (us.flatMap fun v => v.cells.toList).toArray e)) := by
    simp only [execOp, hop, Sem.run_bind, hrun, Result.andThen_ok, Sem.run_pure]
  simp only [Oper.wp, hexec, Oper.upon, hd]
  have hones : ∀ vs ∈ vss, ∀ v ∈ vs, v.oneCell' = true := by
    intro vs hvs
    obtain ⟨k, hk'⟩ := List.getElem?_of_mem hvs
    have hlt : k < us.length := by rw [husl, ← hxl, ← hvl]; exact (List.getElem?_eq_some_iff.1 hk').1
    obtain ⟨vs', hv1, _, hv3⟩ := hus k _ (List.getElem?_eq_getElem hlt)
    rw [hk'] at hv1
    obtain rfl := Option.some.inj hv1
    exact hv3
  obtain ⟨hna, hpn⟩ := newAt_row (W := w.alloc (.cells (us.flatMap fun v => v.cells.toList).toArray e)) (e := e) hI.pos hpl hones (B := w.heap.size) (o := 0) (by
    intro k v hv
    rw [cell_alloc_new, Nat.zero_add, hflat]
    simpa using hv)
  have key := h.newList (w' := w.alloc (.cells (us.flatMap fun v => v.cells.toList).toArray e)) ((Below.refl _ _).alloc (Nat.le_refl _) _) hdn (B := w.heap.size) (o := 0) (cap := len) (es := es) (Nat.le_refl _) hI.pos hpn hna (by omega) ?_ (K := K) hk
  · rw [hxl] at key; exact ⟨fun _ => (Below.refl _ _).alloc (Nat.le_refl _) _, key⟩
  · refine blockOk_alloc ?_
    have hles : ∀ vs ∈ vss, vs.length = es := by
      intro vs hvs
      obtain ⟨k, hk'⟩ := List.getElem?_of_mem hvs
      have hlt : k < xs.length := by rw [← hvl]; exact (List.getElem?_eq_some_iff.1 hk').1
      obtain ⟨vs', h1', h2'⟩ := hvg k xs[k] (List.getElem?_eq_getElem hlt)
      rw [hk'] at h1'
      obtain rfl := Option.some.inj h1'
      exact (plainE_spec h2').2.1
    rw [hflat]
    simp only [List.size_toArray, flatten_len vss hles, hvl, hxl]
    omega

end
end Go.Proofs.Ythlehngbadianaa.Ai
/- append, over elements that own nothing. -/
set_option linter.unusedVariables false
set_option linter.unusedSimpArgs false
namespace Go.Proofs.Ythlehngbadianaa.Ai
open Go Go.RowKit

def strAV (s : ByteArray) : List AV := s.data.toList.map fun b => .v (.int .u8 b.toNat)
def appSrc (isStr : Bool) (es : Nat) (S : List Fr) (y : AV) : Option (List AV) :=
  if isStr then match y with
    | .v (.string s) => if es = 1 then some (strAV s) else none
    | _ => none
  else rdS es S y

theorem World.cell?_drew (w : World) (a : Addr) : w.drew.cell? a = w.cell? a := rfl

section
variable {P : Program} {w : World} {G : Gh} {n : Nat} {a : Act} {fr : Fr} {F : List Fr}

/-- What a slice shows, in memory. -/
theorem Rel.rd (h : Rel w G n a fr F) {x : Opd} {y : AV} {es : Nat} {ys : List AV} (hx : fr.ev x = some y) (hr : rdS es (fr :: F) y = some ys) :
    ∃ ad cap, a.eval x.to = .slice ad ys.length cap ∧ ys.length ≤ cap ∧ ((ad = none ∧ ys = [] ∧ cap = 0) ∨ ∃ B o, ad = some ⟨B, o, none⟩ ∧ (∀ y ∈ ys, y.cells.length = es) ∧
      ∀ i y, ys[i]? = some y → ∀ jj c, y.cells[jj]? = some c → ∃ u, w.cell? ⟨B, o + i * es + jj, none⟩ = some u ∧ u.oneCell' = true ∧ ∀ v, c = .v v → u = v) := by
  simp only [rdS] at hr
  split at hr
  · rename_i hnil
    simp only [Option.some.injEq] at hr
    subst hr
    have hone : y.one = true := by cases y <;> simp_all [nilsl, AV.one]
    have hv := (VR_one hone).1 (h.ev hx)
    exact ⟨none, 0, nilsl_sound _ _ _ hnil hv.2, Nat.le_refl _, Or.inl ⟨rfl, rfl, rfl⟩⟩
  · split at hr
    · rename_i xs p es' off len k hsl
      split at hr
      · rename_i he
        subst he
        simp only [Option.some.injEq] at hr
        obtain ⟨hk, rfl, hcell, hav, hle, ao, cap, hu1, hcap, hao, hblk⟩ := h.slcell hx hsl
        have hyl : ys.length = len := by rw [← hr]; simp; omega
        refine ⟨_, cap, by rw [hyl]; exact hu1, by omega, Or.inr ⟨_, ao, rfl, ?_, ?_⟩⟩
        · intro y hy
          rw [← hr] at hy
          have hy' := List.mem_of_mem_drop (List.mem_of_mem_take hy)
          obtain ⟨i, hi⟩ := List.getElem?_of_mem hy'
          have hu := cellAV_under (show cellAV (rootsOf (fr :: F)) (F.length - k) p = some (.own es' xs) from hav) [] i
          simp only [List.nil_append, AV.elem, hi, Option.bind_some, AV.row, AV.sub, Option.map_some] at hu
          have := h.ok.len _ _ _ _ _ _ _ _ hcell hu
          simpa using this
        · intro i y hy jj c hc
          have hil : i < len := by rw [← hyl]; exact (List.getElem?_eq_some_iff.1 hy).1
          rw [← hr, List.getElem?_take, if_pos hil, List.getElem?_drop] at hy
          have hu := cellAV_under (show cellAV (rootsOf (fr :: F)) (F.length - k) p = some (.own es' xs) from hav) [] (off + i)
          simp only [List.nil_append, AV.elem, hy, Option.bind_some, AV.row, AV.sub, Option.map_some] at hu
          obtain ⟨u, hcu, hcs⟩ := h.ok.cell _ _ _ _ jj c.sh hu (by simp [hc])
          have hone := h.ok.one _ _ _ _ jj c.sh u hu (by simp [hc]) hcu
          simp only [conc] at hcu
          rw [if_pos (inMem_cons _ _ _)] at hcu
          simp only [Gh.addr] at hcu
          have hes : (G.h (F.length - k) p.base p.path p.j).2.2 = es' := by
            obtain ⟨r0, hr0, hj0⟩ := cellOf_row (b := p.base) (path := p.path) (j := p.j) hcell
            obtain ⟨u0, _, hcs0⟩ := h.ok.cell _ _ _ _ _ _ hr0 hj0
            simp only [CS] at hcs0
            exact hcs0.1
          have hao' := hao.resolve_left (by omega)
          refine ⟨u, ?_, hone, ?_⟩
          · rw [← hcu, hes, hao']
            congr 2
            rw [Nat.add_mul]; omega
          · intro v hv
            subst hv
            simpa [AV.sh, CS] using hcs
      · simp at hr
    · simp at hr

/-- What is appended. -/
theorem Rel.src (h : Rel w G n a fr F) {x : Opd} {y : AV} {isStr : Bool} {es : Nat} {ty : TypeId} {ys : List AV} {vss : List (List Value)} (hx : fr.ev x = some y) (hs : appSrc isStr es (fr :: F) y = some ys)
    (hk : if isStr then P.underlying ty = some .string else ∃ e', P.underlying ty = some (.slice e')) (hp : ys.mapM (plainE es) = some vss) (hpos : 0 < es) : Src P es ty (a.eval x.to) ys.length vss.flatten w ∧ ∀ vs ∈ vss, ∀ v ∈ vs, v.oneCell' = true := by
  obtain ⟨hvl, hvg⟩ := mapM_plainE ys vss hp
  cases isStr with
  | true =>
    simp only [if_true] at hk
    simp only [appSrc, if_true] at hs
    split at hs
    · rename_i s
      split at hs
      · rename_i he
        subst he
        simp only [Option.some.injEq] at hs
        have hval := (VR_val (h.ev hx)).1
        subst hs
        have hgen : ∀ l : List UInt8, (l.map fun b => AV.v (.int .u8 b.toNat)).mapM (plainE 1) = some (l.map fun b => [Value.int .u8 b.toNat]) := by
          intro l
          induction l with
          | nil => rfl
          | cons b l ih =>
            simp only [List.map_cons, List.mapM_cons, ih]
            rfl
        have hvss : vss = s.data.toList.map fun b => [Value.int .u8 b.toNat] := by
          have := hgen s.data.toList
          rw [show (s.data.toList.map fun b => AV.v (.int .u8 b.toNat)) = strAV s from rfl, hp] at this
          exact Option.some.inj this
        have hfl : vss.flatten = byteCells s := by
          rw [hvss]
          simp only [byteCells]
          generalize s.data.toList = l
          induction l with
          | nil => rfl
          | cons b l ih => simp only [List.map_cons, List.flatten_cons, ih]; rfl
        have hl : (strAV s).length = s.size := by rw [strAV, List.length_map, Array.length_toList]; rfl
        refine ⟨?_, ?_⟩
        · rw [hfl, hval, hl]
          exact Src.ofString w hk s
        · intro vs hvs v hv
          have : v ∈ vss.flatten := List.mem_flatten.2 ⟨vs, hvs, hv⟩
          rw [hfl] at this
          simp only [byteCells, List.mem_map] at this
          obtain ⟨b, _, rfl⟩ := this
          rfl
      · simp at hs
    · simp at hs
  | false =>
    simp only [Bool.false_eq_true, if_false] at hk
    simp only [appSrc, Bool.false_eq_true, if_false] at hs
    obtain ⟨e', he'⟩ := hk
    obtain ⟨ad, cap, hu, hcap, hcase⟩ := h.rd hx hs
    rcases hcase with ⟨rfl, rfl, rfl⟩ | ⟨B, o, rfl, hl, hc⟩
    · simp only [List.mapM_nil, Option.pure_def, Option.some.injEq] at hp
      subst hp
      refine ⟨?_, fun vs hvs => nomatch hvs⟩
      rw [hu]
      exact Src.ofNil w he' 0
    · have hles : ∀ vs ∈ vss, vs.length = es := by
        intro vs hvs
        obtain ⟨k, hk'⟩ := List.getElem?_of_mem hvs
        have hlt : k < ys.length := by rw [← hvl]; exact (List.getElem?_eq_some_iff.1 hk').1
        obtain ⟨vs', h1', h2'⟩ := hvg k ys[k] (List.getElem?_eq_getElem hlt)
        rw [hk'] at h1'
        obtain rfl := Option.some.inj h1'
        exact (plainE_spec h2').2.1
      have hcv : ∀ i vs jj v, vss[i]? = some vs → vs[jj]? = some v → w.cell? ⟨B, o + i * es + jj, none⟩ = some v ∧ v.oneCell' = true := by
        intro i vs jj v h1 h2
        have hlt : i < ys.length := by rw [← hvl]; exact (List.getElem?_eq_some_iff.1 h1).1
        obtain ⟨vs', h1', h2'⟩ := hvg i ys[i] (List.getElem?_eq_getElem hlt)
        rw [h1] at h1'
        obtain rfl := Option.some.inj h1'
        have hce := (plainE_spec h2').1
        obtain ⟨u, hu1, hu2, hu3⟩ := hc i ys[i] (List.getElem?_eq_getElem hlt) jj (.v v) (by rw [hce, List.getElem?_map, h2]; rfl)
        rw [hu3 v rfl] at hu1 hu2
        exact ⟨hu1, hu2⟩
      have hones : ∀ vs ∈ vss, ∀ v ∈ vs, v.oneCell' = true := by
        intro vs hvs v hv
        obtain ⟨i, hi⟩ := List.getElem?_of_mem hvs
        obtain ⟨jj, hj⟩ := List.getElem?_of_mem hv
        exact (hcv i vs jj v hi hj).2
      refine ⟨?_, hones⟩
      rw [hu]
      refine Src.ofSlice w he' ⟨B, o, none⟩ ys.length cap vss.flatten (by rw [flatten_len vss hles, hvl]) ?_ ?_
      · intro j u hj
        rw [add_plain']
        have hdiv : j = (j / es) * es + j % es := by rw [Nat.mul_comm]; exact (Nat.div_add_mod j es).symm
        have hmod : j % es < es := Nat.mod_lt _ hpos
        rw [hdiv, flatMap_get hpos vss _ _ hles hmod, Option.bind_eq_some_iff] at hj
        obtain ⟨vs, h1, h2⟩ := hj
        have := (hcv _ vs _ u h1 h2).1
        rw [hdiv, ← Nat.add_assoc]
        exact this
      · intro u hu
        obtain ⟨vs, hvs, hv⟩ := List.mem_flatten.1 hu
        exact hones vs hvs u hv

theorem below_drew_alloc (w : World) (o : Obj) : Below w.heap.size w (w.drew.alloc o) := by
  have h1 : Below w.heap.size w w.drew := (Below.refl _ _).drew
  exact h1.alloc (by simp) o

/-- The block that append makes. -/
theorem grown_row {W : World} {e : TypeId} {es : Nat} (olds news : List Value) (rest : Array Value) (B : Nat) : ∀ (k : Nat) (v : Value), (olds ++ news)[k]? = some v → (W.alloc (.cells ((olds ++ news).toArray ++ rest) e)).cell? ⟨W.heap.size, k, none⟩ = some v := by
  intro k v hv
  rw [cell_alloc_new, Array.getElem?_append_left (by simpa using (List.getElem?_eq_some_iff.1 hv).1)]
  simpa using hv

structure AppInfo (P : Program) (o : Oper) (x y : Operand) (t ty e : TypeId) (z : Value) (es bytes : Nat) (isStr : Bool) : Prop where
  op : o.op = .call { callee := .builtin .append, args := #[x, y], argTypes := #[t, ty] }
  info : MkInfo P t e z es bytes
  kind : if isStr then P.underlying ty = some .string else ∃ e', P.underlying ty = some (.slice e')

theorem AppInfo.exec {o : Oper} {x y : Operand} {t ty e : TypeId} {z : Value} {es bytes : Nat} {isStr : Bool} (hI : AppInfo P o x y t ty e z es bytes isStr) {u : Value} {w' : World}
    (hr : (Builtin.append_ #[t, ty] o.type #[a.eval x, a.eval y]).run P w = .ok u w') : (execOp a.eval o).run P w = .ok (.value u) w' := by
  simp only [execOp, hI.op, resolve, Sem.run_bind, Sem.run_pure, Result.andThen_ok, invoke, builtin]
  simp [hr]

/-- append onto nil -/
theorem AOp_app_nil {o : Oper} {x y : Operand} {ox oy : Opd} {t ty e : TypeId} {z : Value} {es bytes d : Nat} {isStr : Bool} {K : Post} (hI : AppInfo P o x y t ty e z es bytes isStr) (hox : opd x = some ox) (hoy : opd y = some oy) (hd : o.dst = some d) (hdn : d < n)
    {vx vy : AV} (hx : fr.ev ox = some vx) (hnil : nilsl vx = true) (hy : fr.ev oy = some vy) {ys : List AV} (hs : appSrc isStr es (fr :: F) vy = some ys) {vss : List (List Value)} (hp : ys.mapM (plainE es) = some vss) (hb : ys.length * bytes ≤ 140737488355328) (h63 : ys.length ≤ 9223372036854775807)
    (hk : if ys = [] then K (fr.set d (.v (.slice none 0 0))) F else K ((fr.kill (.sl d)).set d (.own es ys)) F) : AOp P n o fr F K := by
  intro w G a h
  obtain ⟨i, hi1, hi2, hi3, hi4⟩ := hI.info.parts
  obtain ⟨hsrc, hones⟩ := h.src (P := P) hy hs hI.kind hp hI.info.pos
  have hone : vx.one = true := by cases vx <;> simp_all [nilsl, AV.one]
  have hu := nilsl_sound _ _ _ hnil ((VR_one hone).1 (h.ev hx)).2
  rw [opd_to hox] at hu
  rw [opd_to hoy] at hsrc
  obtain ⟨hvl, hvg⟩ := mapM_plainE ys vss hp
  by_cases hys : ys = []
  · rw [if_pos hys] at hk
    subst hys
    simp only [List.mapM_nil, Option.pure_def, Option.some.injEq] at hp
    subst hp
    have hr : (Builtin.append_ #[t, ty] o.type #[a.eval x, a.eval y]).run P w = .ok (.slice none 0 0) w := by
      have hc := hsrc.cells
      have hl := hsrc.len
      simp only [List.length_nil, List.flatten_nil] at hc hl
      rcases hsrc.kind with ⟨e', hkk⟩ | hkk <;>
        (rw [hu]; simp [Builtin.append_, run_underlying hI.info.under, run_underlying hkk, Go.sizeOf, typeInfo, hi1, hi3, hl, hc])
    simp only [Oper.wp, hI.exec hr, Oper.upon, hd]
    exact h.step hdn (VR_mk rfl) hk
  · rw [if_neg hys] at hk
    have hlen : 0 < ys.length := List.length_pos_iff.2 hys
    have hsrc' : Src P i.size ty (a.eval y) ys.length vss.flatten w := by rw [hi3]; exact hsrc
    have hr := run_append_grow_src w t ty o.type e i z hI.info.under hi1 hi2 none 0 0 [] (by simp [Builtin.firstCells]) (a.eval y) ys.length vss.flatten hsrc' (by omega) (by omega) (by rw [hi4, Nat.zero_add]; exact growslice_fits (by omega) hb)
    rw [← hu] at hr
    simp only [Oper.wp, hI.exec hr, Oper.upon, hd, List.nil_append, Nat.zero_add]
    have hge := grownCap_ge w ys.length 0 e
    obtain ⟨hna, hpn⟩ := newAt_row (W := w.drew.alloc (.cells (vss.flatten.toArray ++ Builtin.zeroCells z.cells (grownCap w ys.length 0 e - ys.length)) e)) (e := e) hI.info.pos hp hones (B := w.heap.size) (o := 0) (by
      intro k v hv
      have := grown_row (W := w.drew) (e := e) (es := es) [] vss.flatten (Builtin.zeroCells z.cells (grownCap w ys.length 0 e - ys.length)) 0 k v (by simpa using hv)
      simpa using this)
    refine h.newList (below_drew_alloc w _) hdn (B := w.heap.size) (o := 0) (Nat.le_refl _) hI.info.pos hpn hna hge ?_ hk
    have hles : ∀ vs ∈ vss, vs.length = es := by
      intro vs hvs
      obtain ⟨k, hk'⟩ := List.getElem?_of_mem hvs
      have hlt : k < ys.length := by rw [← hvl]; exact (List.getElem?_eq_some_iff.1 hk').1
      obtain ⟨vs', h1', h2'⟩ := hvg k ys[k] (List.getElem?_eq_getElem hlt)
      rw [hk'] at h1'
      obtain rfl := Option.some.inj h1'
      exact (plainE_spec h2').2.1
    refine blockOk_alloc (W := w.drew) ?_
    simp only [Array.size_append, List.size_toArray, flatten_len vss hles, hvl, Builtin.zeroCells, Array.size_map, Array.size_range, hI.info.cells, Nat.zero_add]
    rw [← Nat.add_mul]
    exact Nat.mul_le_mul_right _ (by omega)

end
end Go.Proofs.Ythlehngbadianaa.Ai
/- append onto a list that the frames own. -/
set_option linter.unusedVariables false
set_option linter.unusedSimpArgs false
namespace Go.Proofs.Ythlehngbadianaa.Ai
open Go Go.RowKit

def getp : List Fr → Nat → Pl → Option AV
  | [], _, _ => none
  | fr :: F, 0, p => (fr.root p.base).bind fun x => x.cellIn p.path p.j
  | _ :: F, k + 1, p => getp F k p

theorem getp_cellAV : ∀ (S : List Fr) (k : Nat) (p : Pl) (c : AV), getp S k p = some c → k < S.length ∧ cellAV (rootsOf S) (S.length - 1 - k) p = some c
  | [], k, p, c, h => by simp [getp] at h
  | fr :: F, 0, p, c, h => by
    simp only [getp] at h
    refine ⟨by simp, ?_⟩
    simp only [cellAV, rootsOf, List.length_cons, Nat.add_sub_cancel, Nat.sub_zero, if_true]
    exact h
  | fr :: F, k + 1, p, c, h => by
    simp only [getp] at h
    obtain ⟨h1, h2⟩ := getp_cellAV F k p c h
    refine ⟨by simp; omega, ?_⟩
    simp only [List.length_cons]
    rw [show F.length + 1 - 1 - (k + 1) = F.length - 1 - k by omega]
    simp only [cellAV, rootsOf] at h2 ⊢
    rw [if_neg (by omega)]
    exact h2

theorem Wle.setCells (w : World) (B : Nat) : ∀ (vs : List Value) (o : Nat) (w : World), Wle w (w.setCells B o vs)
  | [], o, w => Wle.refl w
  | v :: vs, o, w => (Wle.setCell w _ v).trans (Wle.setCells w B vs (o + 1) _)

theorem setCells_in (B : Nat) : ∀ (vs : List Value) (o : Nat) (w : World) (k : Nat) (v : Value), (∀ j, j < vs.length → (w.cell? ⟨B, o + j, none⟩).isSome = true) → vs[k]? = some v → (w.setCells B o vs).cell? ⟨B, o + k, none⟩ = some v
  | [], o, w, k, v, _, h => by simp at h
  | u :: vs, o, w, k, v, hc, h => by
    simp only [World.setCells]
    have hstep : ∀ j, j < vs.length → ((w.setCell ⟨B, o, none⟩ u).cell? ⟨B, o + 1 + j, none⟩).isSome = true := by
      intro j hj
      rw [cell?_setCell_other (by omega)]
      have := hc (j + 1) (by simp; omega)
      rwa [show o + (j + 1) = o + 1 + j by omega] at this
    cases k with
    | zero =>
      simp only [List.getElem?_cons_zero, Option.some.injEq] at h
      subst h
      rw [World.cell?_setCells_out B vs (o + 1) _ ⟨B, o + 0, none⟩ (fun _ _ => by left; simp)]
      obtain ⟨x, hx⟩ := Option.isSome_iff_exists.1 (hc 0 (by simp))
      exact cell?_setCell_same (by simpa using hx)
    | succ k =>
      simp only [List.getElem?_cons_succ] at h
      have := setCells_in B vs (o + 1) _ k v hstep h
      rwa [show o + 1 + k = o + (k + 1) by omega] at this

/-- A world in which nothing that is tracked has turned. -/
theorem Ok.scribble {w w' : World} {G : Gh} {R : Rt} (ok : Ok w G R) (hw : Wle w w') (hc : ∀ f b path r j s, rowOf R f b path = some r → r[j]? = some s → conc w' G f b path j = conc w G f b path j) : Ok w' G R := by
  have hle : Le R R := ⟨fun _ _ _ _ h => h, fun _ _ _ r _ h => ⟨r, h, rfl⟩⟩
  refine ⟨ok.len, ?_, ?_, fun f t ht => hw _ _ _ (ok.box f t ht), ok.inj⟩
  · intro f b path r j s hr hs
    obtain ⟨u, hu, hcs⟩ := ok.cell f b path r j s hr hs
    exact ⟨u, by rw [hc _ _ _ _ _ _ hr hs]; exact hu, hcs.le hw hle⟩
  · intro f b path r j s u hr hs hu
    rw [hc _ _ _ _ _ _ hr hs] at hu
    exact ok.one _ _ _ _ _ _ _ hr hs hu

/-- Behind a list's elements nothing is tracked. -/
theorem Ok.behind {w : World} {G : Gh} {R : Rt} (ok : Ok w G R) {f1 : Nat} {p1 : Pl} {es m : Nat} (h1 : cellOf R f1 p1 = some (.own es m)) (hw1 : G.wr f1 = true) (vs : List Value) (o : Nat) (ho : (G.h f1 p1.base p1.path p1.j).2.1 + m * es ≤ o) :
    Ok (w.setCells (G.h f1 p1.base p1.path p1.j).1 o vs) G R := by
  refine ok.scribble (Wle.setCells w _ vs o w) ?_
  intro f b path r j s hr hs
  simp only [conc]
  split
  · rename_i hm
    refine World.cell?_setCells_out _ vs o w _ (fun hb _ => ?_)
    left
    simp only at hb ⊢
    have hv1 : (Owner.cell f1 p1.base p1.path p1.j).valid R := Or.inl ⟨es, m, h1⟩
    have ho' := ok.inj _ _ hv1 (ownerOf_valid hr hm) hw1 (by rw [ownerOf_blk G hm]; exact hb.symm)
    cases path with
    | nil => cases b <;> simp [ownerOf] at ho'
    | cons a path =>
      obtain ⟨jj, i⟩ := a
      simp only [ownerOf, Owner.cell.injEq] at ho'
      obtain ⟨rfl, rfl, rfl, rfl⟩ := ho'
      have hcell : cellOf R f1 ⟨p1.base, p1.path, p1.j⟩ = some (.own es m) := h1
      have hl := ok.len _ _ _ _ _ _ _ _ hcell hr
      have hj : j < es := by rw [← hl]; exact (List.getElem?_eq_some_iff.1 hs).1
      have hi : i < m := by
        rcases rowOf_hop hr with ⟨es', n', hh, hi⟩ | ⟨hh, _⟩
        · rw [hcell] at hh; simp at hh; omega
        · rw [hcell] at hh; simp at hh
      obtain ⟨r0, hr0, hj0⟩ := cellOf_row hcell
      obtain ⟨u0, _, hcs0⟩ := ok.cell _ _ _ _ _ _ hr0 hj0
      simp only [CS] at hcs0
      simp only [Gh.addr, hcs0.1]
      have : (i + 1) * es ≤ m * es := Nat.mul_le_mul_right _ hi
      rw [Nat.add_mul] at this
      omega
  · rfl

section
variable {P : Program} {n : Nat} {fr : Fr} {F : List Fr}

theorem pw_cell {w w1 : World} (h : Below w.heap.size w w1) {a : Addr} {v : Value} (hc : w.cell? a = some v) : w1.cell? a = some v := (h.cell (World.block_lt_of_cell? w a hc)).trans hc

theorem getD_self {a : Act} {d : Nat} {v : Value} (h : d < a.tmps.size) : (a.put (some d) v).tmps.getD d undef = v := by
  rw [getD_put _ _ _ _ h]; simp

/-- append onto a list that the frames own -/
theorem AOp_app_own {o : Oper} {x y : Operand} {ox oy : Opd} {t ty e : TypeId} {z : Value} {es bytes d : Nat} {isStr : Bool} {K : Post} (hI : AppInfo P o x y t ty e z es bytes isStr) (hox : opd x = some ox) (hoy : opd y = some oy) (hd : o.dst = some d) (hdn : d < n)
    {vx vy : AV} (hx : fr.ev ox = some vx) {xs : List AV} {p : Pl} {off len k : Nat} (hsl : slcell (fr :: F) vx = some (xs, p, es, off, len, k)) (hfull : off + len = xs.length) (hrw : ((fr :: F).map Fr.rw)[k]? = some true) (hne : ¬ (k = 0 ∧ p.base = .sl d))
    (hy : fr.ev oy = some vy) {ys : List AV} (hs : appSrc isStr es (fr :: F) vy = some ys) {vss : List (List Value)} (hp : ys.mapM (plainE es) = some vss) (hb : (len + ys.length) * bytes ≤ 140737488355328) (h63 : len + ys.length ≤ 9223372036854775807)
    {xs2 : List AV} (hget : getp ((fr.kill (.sl d)).set d .junk :: F) k p = some (.own es xs2)) (hxs2 : xs2 = xs)
    (hk : ∀ fr' F', setp (setp ((fr.kill (.sl d)).set d .junk :: F) k p .junk) 0 ⟨.sl d, [], 0⟩ (.own es (xs.drop off ++ ys)) = fr' :: F' → K fr' F') : AOp P n o fr F K := by
  subst hxs2
  intro w G a h
  obtain ⟨i, hi1, hi2, hi3, hi4⟩ := hI.info.parts
  obtain ⟨hsrc, hones⟩ := h.src (P := P) hy hs hI.kind hp hI.info.pos
  rw [opd_to hoy] at hsrc
  have hsrc' : Src P i.size ty (a.eval y) ys.length vss.flatten w := by rw [hi3]; exact hsrc
  obtain ⟨hkF, hvx, hcell, hav, _, ao, cap, hu1, hcap, hao, hblk⟩ := h.slcell hx hsl
  rw [opd_to hox] at hu1
  have hwk : G.wr (F.length - k) = true := by
    have := h.wr.1.2 k hrw
    simpa using this
  rw [hwk] at hblk
  obtain ⟨hvl, hvg⟩ := mapM_plainE ys vss hp
  have hles : ∀ vs ∈ vss, vs.length = es := by
    intro vs hvs
    obtain ⟨k, hk'⟩ := List.getElem?_of_mem hvs
    have hlt : k < ys.length := by rw [← hvl]; exact (List.getElem?_eq_some_iff.1 hk').1
    obtain ⟨vs', h1', h2'⟩ := hvg k ys[k] (List.getElem?_eq_getElem hlt)
    rw [hk'] at h1'
    obtain rfl := Option.some.inj h1'
    exact (plainE_spec h2').2.1
  have hfl : vss.flatten.length = ys.length * es := by rw [flatten_len vss hles, hvl]
  -- the common end: a world, a block
  have hend : ∀ (w' : World) (B o' cap' : Nat), Rel w' G n a fr F → (w'.os = w.os ∧ w'.tape = w.tape ∧ w'.output = w.output ∧ w.heap.size ≤ w'.heap.size) → (∀ b, b < w.heap.size → Un G (rootsOf (fr :: F)) b → w'.heap[b]? = w.heap[b]?) →
      (B = (G.h (F.length - k) p.base p.path p.j).1 ∨ w.heap.size ≤ B) →
      (∀ i jj, i < len → jj < es → w'.cell? ⟨B, o' + i * es + jj, none⟩ = w'.cell? ⟨(G.h (F.length - k) p.base p.path p.j).1, (G.h (F.length - k) p.base p.path p.j).2.1 + (off + i) * es + jj, none⟩) →
      NewAt w' B (o' + len * es) es ys → Plains es ys → len + ys.length ≤ cap' → blockOk w' true B (o' + cap' * es) → Good n fr F w G K (a.put (some d) (.slice (some ⟨B, o', none⟩) (len + ys.length) cap')) w' := by
    intro w' B o' cap' hr ⟨hos, htape, hout, hsz⟩ hkeep hB hcells hnew hpl hcap' hblk'
    have h1 := hr.kill (.sl d)
    have h2 := h1.set hdn (x := .junk) (v := .slice (some ⟨B, o', none⟩) (len + ys.length) cap') (VR_junk rfl)
    have hG1 := getp_cellAV _ _ _ _ hget
    have hlen1 : ((fr.kill (.sl d)).set d .junk :: F).length - 1 - k = F.length - k := by simp
    rw [hlen1] at hG1
    have hnohit : NoHit ((fr.kill (.sl d)).set d .junk) (.sl d) := by
      intro b' x hx c hc
      cases b' with
      | bx t => exact NoHit.kill fr (.sl d) (.bx t) x hx c hc
      | sl s =>
        simp only [Fr.root, Fr.set, Al.get_set] at hx
        split at hx
        · simp only [Option.some.injEq] at hx; subst hx; simp [AV.cells] at hc; subst hc; rfl
        · exact NoHit.kill fr (.sl d) (.sl s) x hx c hc
    have hblkEq : ∀ ow : Owner, ow.blk (G.setTm F.length d (.slice (some ⟨B, o', none⟩) (len + ys.length) cap')) = ow.blk G := fun ow => by cases ow <;> rfl
    have hvalidR : ∀ ow : Owner, ow.valid (rootsOf ((fr.kill (.sl d)).set d .junk :: F)) → ow.valid (rootsOf (fr :: F)) := by
      intro ow how
      rw [rootsOf_set] at how
      exact (Weak.kill fr F (.sl d)).valid (valid_setRoot_flat (x := .junk) (by intro c hc; simp [AV.cells] at hc; subst hc; exact ⟨rfl, rfl⟩) how (by simp))
    obtain ⟨G', fr', F', he, hl, hrel, hw, htm, hun⟩ := h2.adopt (k := k) (p := p) (es := es) (xs := xs2) hkF hG1.2 hwk (d := d) (j := 0) (x0 := .junk) (c0 := .junk) (by simp [Fr.set, Al.get_set]) rfl rfl hne hnohit off len (by omega) ys hpl B o' cap'
      (by
        rcases hB with hB | hB
        · exact Or.inl hB
        · right
          intro ow how
          rw [hblkEq]
          have := h.ok.blk_lt (hvalidR ow how)
          omega)
      hcells hnew (by rw [getD_self (by rw [h.size]; exact hdn)]; rfl) hcap' hblk'
    have htake : (xs2.drop off).take len = xs2.drop off := by rw [List.take_of_length_le]; simp; omega
    rw [htake] at he
    refine ⟨G', fr', F', hk fr' F' he, hl, hrel, ⟨hos, htape, hout, hsz, hw, ?_, ?_, ?_⟩⟩
    · intro f k' hf
      rw [htm]
      simp only [Gh.setTm]
      rw [if_neg (fun e => by omega)]
    · intro b hlt hu
      refine ⟨hkeep b hlt hu, hun b ?_ ?_⟩
      · intro ow how hwro
        rw [hblkEq]
        exact hu ow (hvalidR ow how) hwro
      · rcases hB with hB | hB
        · intro e
          subst e
          refine hu (Owner.cell (F.length - k) p.base p.path p.j) (Or.inl ⟨es, xs2.length, hcell⟩) hwk ?_
          simp only [Owner.blk]; exact hB.symm
        · omega
    · have hl1 := setp_length ((fr.kill (.sl d)).set d .junk :: F) k p .junk
      refine ((Shp.cons fr ((fr.kill (.sl d)).set d .junk) F).trans (Shp.setp F.length (c := .junk) rfl (by simp; omega) rfl)).trans (Shp.setp F.length (p := ⟨.sl d, [], 0⟩) rfl (by rw [hl1]; simp) he)
  by_cases hroom : len + ys.length ≤ cap
  · -- room
    have hao' : ys.length = 0 ∧ len = 0 ∨ ao = (G.h (F.length - k) p.base p.path p.j).2.1 + off * es := by
      rcases hao with h0 | h0
      · left; omega
      · right; exact h0
    have hcellb : ∀ j, j < vss.flatten.length → ∃ arr e fz, w.heap[(G.h (F.length - k) p.base p.path p.j).1]? = some (.cells arr e fz) ∧ ao + len * es + j < arr.size ∧ ¬ (fz.1 ≤ ao + len * es + j ∧ ao + len * es + j < fz.2) := by
      intro j hj
      obtain ⟨arr, e', fz, h1, h2, h3⟩ := hblk
      have : (len + ys.length) * es ≤ cap * es := Nat.mul_le_mul_right _ hroom
      rw [Nat.add_mul] at this
      exact ⟨arr, e', fz, h1, by omega, h3 rfl _ (by omega)⟩
    have hcc : ∀ j, j < vss.flatten.length → (w.cell? ⟨(G.h (F.length - k) p.base p.path p.j).1, ao + len * es + j, none⟩).isSome = true := by
      intro j hj
      obtain ⟨arr, e', fz, h1, h2, _⟩ := hcellb j hj
      unfold World.cell?
      rw [h1]
      simp [h2]
    have hrun := run_append_room_src w t ty o.type e i hI.info.under hi1 (G.h (F.length - k) p.base p.path p.j).1 ao len cap (a.eval y) ys.length vss.flatten hsrc' hroom (by rw [hi3]; exact hcc) (by
      rw [hi3]
      intro j hj
      obtain ⟨arr, e', fz, h1, h2, h3⟩ := hcellb j hj
      unfold World.frozen?
      rw [h1]
      obtain ⟨lo, hi⟩ := fz
      simp only at h3 ⊢
      simp only [Bool.and_eq_false_iff, decide_eq_false_iff_not]
      omega)
    rw [← hu1, hi3] at hrun
    simp only [Oper.wp, hI.exec hrun, Oper.upon, hd]
    have hokS : Ok (w.setCells (G.h (F.length - k) p.base p.path p.j).1 (ao + len * es) vss.flatten) G (rootsOf (fr :: F)) := by
      rcases hao' with ⟨h0, h00⟩ | h0
      · have : vss.flatten = [] := List.eq_nil_of_length_eq_zero (by rw [hfl, h0]; simp)
        rw [this]; exact h.ok
      · refine h.ok.behind hcell hwk _ _ ?_
        rw [h0, ← hfull, Nat.add_mul]; omega
    obtain ⟨hna, hpn⟩ := newAt_row (W := w.setCells (G.h (F.length - k) p.base p.path p.j).1 (ao + len * es) vss.flatten) (e := e) hI.info.pos hp hones (B := (G.h (F.length - k) p.base p.path p.j).1) (o := ao + len * es) (fun k' v hv => setCells_in _ _ _ _ _ _ hcc hv)
    have hstr : ∀ (vs : List Value) (o : Nat) (w : World) (B : Nat), (w.setCells B o vs).os = w.os ∧ (w.setCells B o vs).tape = w.tape ∧ (w.setCells B o vs).output = w.output ∧ (w.setCells B o vs).heap.size = w.heap.size ∧ ∀ b, b ≠ B → (w.setCells B o vs).heap[b]? = w.heap[b]? := by
      intro vs
      induction vs with
      | nil => intro o w B; exact ⟨rfl, rfl, rfl, rfl, fun _ _ => rfl⟩
      | cons v vs ih =>
        intro o w B
        obtain ⟨a1, a2, a3, a4, a5⟩ := ih (o + 1) (w.setCell ⟨B, o, none⟩ v) B
        simp only [World.setCells]
        refine ⟨a1, a2, a3, by rw [a4]; simp [World.setCell], fun b hb => ?_⟩
        rw [a5 b hb, Below.heap_setCell _ _ _ _ hb]
    obtain ⟨s1, s2, s3, s4, s5⟩ := hstr vss.flatten (ao + len * es) w (G.h (F.length - k) p.base p.path p.j).1
    refine hend _ (G.h (F.length - k) p.base p.path p.j).1 ao cap ⟨hokS, h.tm, h.shape, h.size, h.wr, h.defers, h.clean⟩ ⟨s1, s2, s3, by omega⟩ ?_ (Or.inl rfl) ?_ hna hpn hroom (Wle.setCells w _ _ _ _ _ _ _ hblk)
    · intro b hlt hu
      refine s5 b (fun e => ?_)
      subst e
      exact hu (Owner.cell (F.length - k) p.base p.path p.j) (Or.inl ⟨es, xs2.length, hcell⟩) hwk rfl
    · intro i' jj hi' hjj
      rcases hao' with ⟨_, h00⟩ | h0
      · omega
      · rw [h0]
        congr 2
        rw [Nat.add_mul]; omega
  · -- a new block
    have hao' : len = 0 ∨ ao = (G.h (F.length - k) p.base p.path p.j).2.1 + off * es := by
      rcases hao with h0 | h0
      · left; omega
      · right; exact h0
    let olds : List Value := (List.range (len * es)).map fun j => (w.cell? ⟨(G.h (F.length - k) p.base p.path p.j).1, ao + j, none⟩).getD undef
    have holds : ∀ j, j < len * es → w.cell? ⟨(G.h (F.length - k) p.base p.path p.j).1, ao + j, none⟩ = olds[j]? := by
      intro j hj
      obtain ⟨arr, e', fz, h1, h2, _⟩ := hblk
      have hle : len * es ≤ cap * es := Nat.mul_le_mul_right _ hcap
      have : w.cell? ⟨(G.h (F.length - k) p.base p.path p.j).1, ao + j, none⟩ = some arr[ao + j] := by
        unfold World.cell?
        rw [h1]
        simp [show ao + j < arr.size by omega]
      simp [olds, hj, this]
    have hol : olds.length = len * i.size := by simp [olds, hi3]
    have hfirst := run_firstCells_some (P := P) w.drew i.size len ⟨(G.h (F.length - k) p.base p.path p.j).1, ao, none⟩ len cap olds hol (by
      intro j v hj
      rw [add_plain', World.cell?_drew, holds j (by have := (List.getElem?_eq_some_iff.1 hj).1; rw [hol, hi3] at this; exact this)]
      exact hj)
    have hrun := run_append_grow_src w t ty o.type e i z hI.info.under hi1 hi2 (some ⟨(G.h (F.length - k) p.base p.path p.j).1, ao, none⟩) len cap olds hfirst (a.eval y) ys.length vss.flatten hsrc' (by omega) (by omega) (by rw [hi4]; exact growslice_fits (by omega) hb)
    rw [← hu1] at hrun
    simp only [Oper.wp, hI.exec hrun, Oper.upon, hd]
    have hge := grownCap_ge w (len + ys.length) cap e
    rw [hi3] at hol
    have hbel := below_drew_alloc w (.cells ((olds ++ vss.flatten).toArray ++ Builtin.zeroCells z.cells (grownCap w (len + ys.length) cap e - (len + ys.length))) e)
    obtain ⟨hna, hpn⟩ := newAt_row (W := w.drew.alloc (.cells ((olds ++ vss.flatten).toArray ++ Builtin.zeroCells z.cells (grownCap w (len + ys.length) cap e - (len + ys.length))) e)) (e := e) hI.info.pos hp hones (B := w.heap.size) (o := 0 + len * es) (fun k' v hv => by
      have := grown_row (W := w.drew) (e := e) (es := es) olds vss.flatten (Builtin.zeroCells z.cells (grownCap w (len + ys.length) cap e - (len + ys.length))) 0 (len * es + k') v (by rw [List.getElem?_append_right (by omega), hol]; simpa using hv)
      rw [Nat.zero_add]
      exact this)
    refine hend _ w.heap.size 0 (grownCap w (len + ys.length) cap e) (h.world hbel) ⟨hbel.os, hbel.tape, hbel.output, hbel.size⟩ (fun b hlt _ => hbel.block b hlt) (Or.inr (Nat.le_refl _)) ?_ hna hpn hge ?_
    · intro i' jj hi' hjj
      have hlt : i' * es + jj < len * es := by
        have : (i' + 1) * es ≤ len * es := Nat.mul_le_mul_right _ hi'
        rw [Nat.add_mul] at this; omega
      have hv : olds[i' * es + jj]? = some olds[i' * es + jj] := List.getElem?_eq_getElem (by omega)
      have h1 := grown_row (W := w.drew) (e := e) (es := es) olds vss.flatten (Builtin.zeroCells z.cells (grownCap w (len + ys.length) cap e - (len + ys.length))) 0 (i' * es + jj) olds[i' * es + jj] (by rw [List.getElem?_append_left (by omega)]; exact hv)
      have h2 := holds (i' * es + jj) hlt
      rw [hv] at h2
      have h3 := pw_cell hbel h2
      rw [Nat.zero_add]
      rcases hao' with h0 | h0
      · omega
      · have e9 : (G.h (F.length - k) p.base p.path p.j).2.1 + (off + i') * es + jj = ao + (i' * es + jj) := by
          have := Nat.add_mul off i' es
          omega
        rw [e9, h3]
        exact h1
    · refine blockOk_alloc (W := w.drew) ?_
      simp only [Array.size_append, List.size_toArray, List.length_append, hol, hfl, Builtin.zeroCells, Array.size_map, Array.size_range, hI.info.cells, Nat.zero_add]
      rw [← Nat.add_mul, ← Nat.add_mul]
      exact Nat.mul_le_mul_right _ (by omega)

end
end Go.Proofs.Ythlehngbadianaa.Ai
/- Code: the rules. -/
set_option linter.unusedVariables false
set_option linter.unusedSimpArgs false
namespace Go.Proofs.Ythlehngbadianaa.Ai
open Go Go.RowKit

section
variable {P : Program} {n : Nat} {fr : Fr} {F : List Fr}

theorem Good.mono {w : World} {G : Gh} {K K' : Post} {a' : Act} {w' : World} (h : Good n fr F w G K a' w') (hk : ∀ fr' F', F'.length = F.length → K fr' F' → K' fr' F') : Good n fr F w G K' a' w' := by
  obtain ⟨G', fr', F', h1, h2, h3, h4⟩ := h
  exact ⟨G', fr', F', hk _ _ h2 h1, h2, h3, h4⟩

theorem AW.mono {c : Code} {Q Q' : Exit → Post} (h : AW P n c fr F Q) (hq : ∀ e fr' F', F'.length = F.length → Q e fr' F' → Q' e fr' F') : AW P n c fr F Q' :=
  fun w G a hr => wp_mono (h w G a hr) fun e _ _ hg => hg.mono (hq e)

theorem Good.here {w : World} {G : Gh} {a : Act} {K : Post} (h : Rel w G n a fr F) (hk : K fr F) : Good n fr F w G K a w := ⟨G, fr, F, hk, rfl, h, Tr.refl _ _ _ _⟩

theorem AW_skip {Q : Exit → Post} (h : Q .normal fr F) : AW P n .skip fr F Q := fun w G a hr => wp_skip (Good.here hr h)
theorem AW_exit {id : Nat} {Q : Exit → Post} (h : Q (.exit id) fr F) : AW P n (.exit id) fr F Q := fun w G a hr => wp_exit (Good.here hr h)
theorem AW_ret {Q : Exit → Post} (h : Q .ret fr F) : AW P n .ret fr F Q := fun w G a hr => wp_ret (Good.here hr h)

/-- What a code behind another one begins with. -/
def seqQ (next : Post) (Q : Exit → Post) : Exit → Post
  | .normal => next
  | e => Q e

theorem AW_seq {x y : Code} {Q : Exit → Post} (h : AW P n x fr F (seqQ (fun fr' F' => AW P n y fr' F' Q) Q)) : AW P n (.seq x y) fr F Q := by
  intro w G a hr
  refine wp_seq (wp_mono (h w G a hr) ?_)
  intro e a' w' hg
  cases e with
  | normal =>
    obtain ⟨G', fr', F', h1, h2, h3, h4⟩ := hg
    exact wp_mono (h1 w' G' a' h3) fun e2 a2 w2 hg2 => hg2.trans h2 h4
  | exit id => exact hg
  | goto l => exact hg
  | ret => exact hg
  | panic c => exact hg
  | outgrown => exact hg

theorem AW_cond {c : Operand} {x y : Code} {oc : Opd} {b : Bool} {Q : Exit → Post} (hoc : opd c = some oc) (hb : fr.ev oc = some (.v (.bool b))) (h : AW P n (if b then x else y) fr F Q) : AW P n (.cond c x y) fr F Q := by
  intro w G a hr
  have := (VR_val (hr.ev hb)).1
  rw [opd_to hoc] at this
  exact wp_cond this (h w G a hr)

def blockQ (id : Nat) (Q : Exit → Post) : Exit → Post
  | .exit id' => if id' = id then Q .normal else Q (.exit id')
  | e => Q e

theorem AW_block {id : Nat} {c : Code} {Q : Exit → Post} (h : AW P n c fr F (blockQ id Q)) : AW P n (.block id c) fr F Q := by
  intro w G a hr
  refine wp_block (wp_mono (h w G a hr) ?_)
  intro e a' w' hg
  cases e with
  | exit id' =>
    simp only [Exit.inBlock, blockQ] at hg ⊢
    split <;> rename_i hid
    · rw [if_pos hid] at hg; exact hg
    · rw [if_neg hid] at hg; exact hg
  | normal => exact hg
  | goto l => exact hg
  | ret => exact hg
  | panic c => exact hg
  | outgrown => exact hg

theorem AW_region {id : Nat} {ops : Array Oper} {Q : Exit → Post} (h : AOps P n ops (List.range ops.size) fr F (Q .normal)) : AW P n (.region id ops false) fr F Q := by
  intro w G a hr
  refine wp_region (wpOps_mono ?_ _ _ _ (h w G a hr))
  rintro e a' w' ⟨rfl, hg⟩
  exact hg

/-- A loop: what holds at each round's head, with a number that goes down. -/
theorem AW_loop {c : Code} {Q : Exit → Post} (I : Nat → Fr → List Fr → Prop) (m : Nat) (h0 : I m fr F)
    (round : ∀ m fr' F', F'.length = F.length → I m fr' F' → AW P n c fr' F' (seqQ (fun fr2 F2 => ∃ m', m' < m ∧ I m' fr2 F2) Q)) : AW P n (.loop c) fr F Q := by
  intro w G a hr b k cs
  have key : ∀ m fr1 F1 w1 G1 a1, I m fr1 F1 → F1.length = F.length → Rel w1 G1 n a1 fr1 F1 →
      ∃ e a' w', Good n fr1 F1 w1 G1 (Q e) a' w' ∧ Arrives P (lone (b.at a1 (.code c :: .inLoop c :: k)) cs w1) b k cs e a' w' := by
    intro m
    induction m using Nat.strongRecOn with
    | _ m ih =>
      intro fr1 F1 w1 G1 a1 hI hl hrel
      obtain ⟨e, a2, w2, hg, harr⟩ := round m fr1 F1 hl hI w1 G1 a1 hrel b (.inLoop c :: k) cs
      cases e with
      | normal =>
        obtain ⟨G2, fr2, F2, ⟨m', hlt, hI'⟩, hl2, hrel2, htr⟩ := hg
        obtain ⟨e3, a3, w3, hg3, harr3⟩ := ih m' hlt fr2 F2 w2 G2 a2 hI' (by omega) hrel2
        exact ⟨e3, a3, w3, hg3.trans hl2 htr, .of_steps (Steps.trans harr (.one step_inLoop)) harr3⟩
      | exit id => exact ⟨_, a2, w2, hg, .pass (x := .inLoop c) rfl (fun _ _ => .inl (by simp)) harr⟩
      | goto l => exact ⟨_, a2, w2, hg, .pass (x := .inLoop c) rfl (fun _ _ => .inl (by simp)) harr⟩
      | ret => exact ⟨_, a2, w2, hg, .pass (x := .inLoop c) rfl (fun _ _ => .inl (by simp)) harr⟩
      | panic ch => exact ⟨_, a2, w2, hg, .pass (x := .inLoop c) rfl (fun _ _ => .inl (by simp)) harr⟩
      | outgrown => exact ⟨_, a2, w2, hg, .pass (x := .inLoop c) rfl (fun _ _ => .inl (by simp)) harr⟩
  obtain ⟨e, a', w', hg, harr⟩ := key m fr F w G a h0 rfl hr
  exact ⟨e, a', w', hg, .of_steps (.one step_loop) harr⟩

/-- Slots and boxes may be forgotten at any time. -/
theorem AW_forget {c : Code} {Q : Exit → Post} {fr' : Fr} (hrw : fr'.rw = fr.rw) (hs : ∀ k x, fr'.sl.get k = some x → fr.sl.get k = some x) (hb : ∀ k x, fr'.bx.get k = some x → fr.bx.get k = some x) (h : AW P n c fr' F Q) : AW P n c fr F Q := by
  intro w G a hr
  have hweak : Weak (rootsOf (fr' :: F)) (rootsOf (fr :: F)) := by
    refine Weak.roots fun f b => ?_
    simp only [rootsOf]
    split
    · cases b with
      | sl k =>
        simp only [Fr.root]
        cases hx : fr'.sl.get k with
        | none => exact Or.inl rfl
        | some x => exact Or.inr (hs k x hx).symm
      | bx k =>
        simp only [Fr.root]
        cases hx : fr'.bx.get k with
        | none => exact Or.inl rfl
        | some x => exact Or.inr (hb k x hx).symm
    · exact Or.inr rfl
  have hr' : Rel w G n a fr' F := ⟨hr.ok.weaken hweak, hr.tm, fun k x hx => hr.shape k x (hs k x hx), hr.size, by simpa [hrw] using hr.wr, hr.defers, hweak.clean hr.clean⟩
  refine wp_mono (h w G a hr') fun e a' w' hg => ?_
  exact hg.trans rfl (Tr.weak hweak (Shp.cons _ _ _))

end
end Go.Proofs.Ythlehngbadianaa.Ai
/- Calls. -/
set_option linter.unusedVariables false
set_option linter.unusedSimpArgs false
namespace Go.Proofs.Ythlehngbadianaa.Ai
open Go Go.RowKit

/-- The frame in which a call's result lies. -/
def RES : Nat := 99999
def resFr (r : AV) : Fr := ⟨[(RES, r)], [], true⟩

/-- What a call ends in. -/
def Done (F : List Fr) (w : World) (G : Gh) (Q : AV → List Fr → Prop) (v : Value) (w' : World) : Prop :=
  ∃ r F' G', Q r F' ∧ F'.length = F.length ∧ WrC G' (F'.map Fr.rw) ∧ Ok w' G' (rootsOf (resFr r :: F')) ∧ Clean (rootsOf (resFr r :: F')) ∧ G'.tm F.length RES = v ∧ Shape r v ∧ (∀ x ∈ flatV v, x.oneCell' = true) ∧
    Tr F.length w G (rootsOf F) w' G' (rootsOf (resFr r :: F'))

/-- A function's contract. -/
def ACalls (P : Program) (f : FuncId) (args : List AV) (F : List Fr) (Q : AV → List Fr → Prop) : Prop :=
  ∀ w G (vals : Array Value), Ok w G (rootsOf F) → Clean (rootsOf F) → WrC G (F.map Fr.rw) → vals.size = args.length → (∀ (i : Nat) (x : AV), args[i]? = some x → ∃ u, vals[i]? = some u ∧ VR w G (rootsOf F) F.length x u) →
    Calls P f vals w fun e w' => ∃ v, e = .returned v ∧ Done F w G Q v w'

def enterFr : Nat → List AV → Al
  | _, [] => []
  | i, x :: xs => (i, x) :: enterFr (i + 1) xs

theorem enterFr_get : ∀ (i : Nat) (xs : List AV) (k : Nat), (enterFr i xs).get k = if i ≤ k then xs[k - i]? else none
  | i, [], k => by simp [enterFr, Al.get]
  | i, x :: xs, k => by
    simp only [enterFr, Al.get, enterFr_get (i + 1) xs k]
    by_cases h : i = k
    · subst h; simp
    · by_cases h2 : i ≤ k
      · rw [if_neg h, if_pos (by omega), if_pos h2, show k - i = (k - (i + 1)) + 1 by omega, List.getElem?_cons_succ]
      · rw [if_neg h, if_neg (by omega), if_neg h2]

section
variable {P : Program} {n : Nat}

/-- The frame of a call that begins. -/
theorem enter_rel {w : World} {G : Gh} {F : List Fr} {args : List AV} {vals : Array Value} (ok : Ok w G (rootsOf F)) (cl : Clean (rootsOf F)) (hwr : WrC G (F.map Fr.rw)) (hl : vals.size = args.length) (hn : vals.size ≤ n)
    (hv : ∀ (i : Nat) (x : AV), args[i]? = some x → ∃ u, vals[i]? = some u ∧ VR w G (rootsOf F) F.length x u) :
    ∃ G', Rel w G' n { tmps := vals ++ Array.replicate (n - vals.size) undef, defers := [] } ⟨enterFr 0 args, [], true⟩ F ∧ Tr F.length w G (rootsOf F) w G' (rootsOf (⟨enterFr 0 args, [], true⟩ :: F)) := by
  -- slot by slot
  have key : ∀ (m : Nat), m ≤ args.length → ∃ G', Ok w G' (rootsOf (⟨enterFr 0 (args.take m), [], true⟩ :: F)) ∧ Clean (rootsOf (⟨enterFr 0 (args.take m), [], true⟩ :: F)) ∧ G'.wr = G.wr ∧ (∀ f k, f < F.length → G'.tm f k = G.tm f k) ∧
      (∀ k, k < m → ∃ u, vals[k]? = some u ∧ G'.tm F.length k = u) ∧ (∀ b, Un G (rootsOf F) b → Un G' (rootsOf (⟨enterFr 0 (args.take m), [], true⟩ :: F)) b) ∧ (∀ x u, RV w G (rootsOf F) F.length x u → RV w G' (rootsOf (⟨enterFr 0 (args.take m), [], true⟩ :: F)) F.length x u) := by
    intro m
    induction m with
    | zero =>
      intro _
      have hweak : Weak (rootsOf (⟨enterFr 0 (args.take 0), [], true⟩ :: F)) (rootsOf F) := by
        refine Weak.roots fun f b => ?_
        simp only [rootsOf]
        split
        · left; cases b <;> rfl
        · exact Or.inr rfl
      exact ⟨G, ok.weaken hweak, hweak.clean cl, rfl, fun _ _ _ => rfl, fun k hk => by omega, fun b hu => Un.weak rfl (fun o ho => ⟨hweak.valid ho, rfl⟩) hu, fun x u hr => RV.le (Wle.refl w) hweak.le _ _ _ hr⟩
    | succ m ih =>
      intro hm
      obtain ⟨G', h1, h2, h3, h4, h5, h6, h7⟩ := ih (by omega)
      have hx : args[m]? = some args[m] := List.getElem?_eq_getElem (by omega)
      obtain ⟨u, hu, hvr⟩ := hv m _ hx
      have hflat := hvr.flat
      have hok := h1.slot F.length m (x := args[m]) (v := u) hflat (fun j c hc => by
        obtain ⟨u', hu', hr⟩ := ((RVs_iff _ _).1 hvr.2.2).2 j c hc
        exact ⟨u', hu', hvr.2.1 _ (List.mem_of_getElem? hu'), h7 _ _ hr⟩)
      have hroots : rootsOf (⟨enterFr 0 (args.take (m + 1)), [], true⟩ :: F) = setRoot (rootsOf (⟨enterFr 0 (args.take m), [], true⟩ :: F)) F.length (.sl m) args[m] := by
        funext f b
        simp only [rootsOf, setRoot]
        by_cases hf : f = F.length
        · subst hf
          simp only [if_true, true_and]
          cases b with
          | bx t => simp [Fr.root]
          | sl k =>
            simp only [Fr.root, enterFr_get, Nat.zero_le, if_true, Nat.sub_zero, Base.sl.injEq, List.getElem?_take]
            by_cases hk : k = m
            · subst hk; simp [hx]
            · by_cases hlt : k < m
              · simp [hk, hlt, show k < m + 1 by omega]
              · simp [hk, hlt, show ¬ k < m + 1 by omega]
        · simp [hf]
      rw [← hroots] at hok
      refine ⟨_, hok, by rw [hroots]; exact h2.setRoot hflat, h3, ?_, ?_, ?_, ?_⟩
      · intro f k hf
        simp only [Gh.setTm]
        rw [if_neg (fun e => by omega)]
        exact h4 f k hf
      · intro k hk
        simp only [Gh.setTm, true_and]
        by_cases hkm : k = m
        · subst hkm; exact ⟨u, hu, by simp⟩
        · simp only [hkm, if_false]; exact h5 k (by omega)
      · intro b hub
        refine Un.weak (G := G') rfl ?_ (h6 b hub)
        intro o ho
        rw [hroots] at ho
        exact ⟨valid_setRoot_flat hflat ho (by simp), by cases o <;> rfl⟩
      · intro x u' hr
        have := h7 x u' hr
        rw [hroots]
        refine RV.gen (G := G') (G' := G'.setTm F.length m u) (fun _ _ => False) (fun _ _ _ => False) (Wle.refl w) rfl ?_ ?_ _ x u' (AV.off_false _ _) this
        · intro f1 p es n _ hc
          exact ⟨(cellOf_setRoot_own hflat hc rfl).2, rfl⟩
        · intro f1 b1 path r' _ hm' hr'
          rcases rowOf_setRoot_flat hflat hr' with ⟨_, rfl, rfl, _⟩ | ⟨_, h8⟩
          · simp [inMem] at hm'
          · exact ⟨⟨r', h8, rfl⟩, addr_cell rfl (fun _ _ _ _ => rfl)⟩
  obtain ⟨G', h1, h2, h3, h4, h5, h6, _⟩ := key args.length (Nat.le_refl _)
  rw [List.take_length] at h1 h2 h6
  -- the other slots' values
  let G2 : Gh := { G' with tm := fun f k => if f = F.length then (vals ++ Array.replicate (n - vals.size) undef).getD k undef else G'.tm f k }
  have hsame : ∀ f b path j r s, rowOf (rootsOf (⟨enterFr 0 args, [], true⟩ :: F)) f b path = some r → r[j]? = some s → conc w G2 f b path j = conc w G' f b path j := by
    intro f b path j r s hr hs
    have ha : G2.addr f b path = G'.addr f b path := addr_cell rfl (fun _ _ _ _ => rfl)
    simp only [conc, ha]
    split
    · rfl
    · rename_i hm
      cases b with
      | bx t => rfl
      | sl k =>
        by_cases hf : f = F.length
        · subst hf
          have hpath : path = [] := by cases path with
            | nil => rfl
            | cons a t => simp [inMem] at hm
          subst hpath
          have hk : k < args.length := by
            simp only [rowOf, rootsOf, if_true, Fr.root, enterFr_get, Nat.zero_le, Nat.sub_zero] at hr
            cases hx : args[k]? with
            | none => simp [hx] at hr
            | some x => exact (List.getElem?_eq_some_iff.1 hx).1
          obtain ⟨u, hu, htm⟩ := h5 k hk
          have : G2.tm F.length k = G'.tm F.length k := by
            simp only [G2, if_true, htm]
            rw [Array.getD_eq_getD_getElem?, Array.getElem?_append_left (by omega), hu]
            rfl
          simp only [this]
        · simp only [G2, hf, if_false]
  have hRV2 : ∀ f x u, RV w G' (rootsOf (⟨enterFr 0 args, [], true⟩ :: F)) f x u → RV w G2 (rootsOf (⟨enterFr 0 args, [], true⟩ :: F)) f x u := by
    intro f x u hr
    refine RV.gen (G := G') (G' := G2) (fun _ _ => False) (fun _ _ _ => False) (Wle.refl w) rfl ?_ ?_ f x u (AV.off_false _ _) hr
    · intro f1 p es n _ hc; exact ⟨hc, rfl⟩
    · intro f1 b1 path r' _ _ hr'; exact ⟨⟨r', hr', rfl⟩, addr_cell rfl (fun _ _ _ _ => rfl)⟩
  have ok2 : Ok w G2 (rootsOf (⟨enterFr 0 args, [], true⟩ :: F)) := by
    refine ⟨h1.len, ?_, ?_, h1.box, ?_⟩
    · intro f b path r j s hr hs
      obtain ⟨u, hu, hcs⟩ := h1.cell f b path r j s hr hs
      refine ⟨u, by rw [hsame _ _ _ _ _ _ hr hs]; exact hu, ?_⟩
      cases s <;> simp only [CS] at hcs ⊢
      · exact hcs
      · exact hcs
      · exact hcs
      · exact hRV2 _ _ _ hcs
    · intro f b path r j s u hr hs hu
      rw [hsame _ _ _ _ _ _ hr hs] at hu
      exact h1.one _ _ _ _ _ _ _ hr hs hu
    · intro o o' ho ho' hm hb
      have : ∀ o : Owner, o.blk G2 = o.blk G' := fun o => by cases o <;> rfl
      rw [this, this] at hb
      exact h1.inj o o' ho ho' hm hb
  refine ⟨G2, ⟨ok2, fun k => by simp [G2], ?_, by simp; omega, ?_, rfl, h2⟩, rfl, rfl, rfl, Nat.le_refl _, h3, ?_, ?_, ?_⟩
  · intro k x hx
    simp only [enterFr_get, Nat.zero_le, if_true, Nat.sub_zero] at hx
    obtain ⟨u, hu, hvr⟩ := hv k x hx
    have hk : k < vals.size := by rw [hl]; exact (List.getElem?_eq_some_iff.1 hx).1
    rw [show (vals ++ Array.replicate (n - vals.size) undef).getD k undef = u by rw [Array.getD_eq_getD_getElem?, Array.getElem?_append_left hk, hu]; rfl]
    exact ⟨hvr.1, hvr.2.1⟩
  · refine ⟨⟨?_, ?_⟩, by simp⟩
    · intro f hf
      show G'.wr f = true
      rw [h3]
      exact hwr.1 f (by simp at hf ⊢; omega)
    · intro i hi
      show G'.wr _ = true
      rw [h3]
      cases i with
      | zero => exact hwr.1 _ (by simp)
      | succ i =>
        have := hwr.2 i (by simpa using hi)
        simp only [List.length_map, List.length_cons, List.map_cons] at this ⊢
        rw [show F.length + 1 - 1 - (i + 1) = F.length - 1 - i by omega]
        exact this
  · intro f k hf
    simp only [G2]
    rw [if_neg (by omega)]
    exact h4 f k hf
  · intro b _ hu
    refine ⟨rfl, ?_⟩
    have := h6 b hu
    exact Un.weak (G := G') rfl (fun o ho => ⟨ho, by cases o <;> rfl⟩) this
  · exact Shp.of_eq fun f k hf => rootsOf_lt _ _ _ _ hf

end
end Go.Proofs.Ythlehngbadianaa.Ai
/- A whole cell's content goes over to another cell that holds the same value. -/
set_option linter.unusedVariables false
set_option linter.unusedSimpArgs false
namespace Go.Proofs.Ythlehngbadianaa.Ai
open Go Go.RowKit

theorem OkObj {w : World} {G : Gh} {R : Rt} (ok : Ok w G R) (cl : Clean R) {f1 : Nat} {p1 : Pl} {x : AV} (h1 : cellAV R f1 p1 = some (.obj x)) (hw1 : G.wr f1 = true)
    {f2 : Nat} {p2 : Pl} {r2 : List Sh} (h2 : rowOf (setR R f1 p1 .junk) f2 p2.base p2.path = some r2) (hj2 : p2.j < r2.length) (hl2 : ∀ s, r2[p2.j]? = some s → s.leaf = true) (hw2 : G.wr f2 = true)
    (hhead : conc w G f2 p2.base p2.path p2.j = conc w G f1 p1.base p1.path p1.j)
    (hoff : ∀ f b path r x, rowOf (setR R f1 p1 .junk) f b path = some r → .ref x ∈ r → x.off (TT f2 p2) (NN f2 p2) f) :
    ∃ G', Ok w G' (setR (setR R f1 p1 .junk) f2 p2 (.obj x)) ∧ Clean (setR (setR R f1 p1 .junk) f2 p2 (.obj x)) ∧ G'.wr = G.wr ∧ G'.tm = G.tm ∧ AddrKeep G G' f2 p2 ∧
      ∀ b, Un G R b → Un G' (setR (setR R f1 p1 .junk) f2 p2 (.obj x)) b := by
  obtain ⟨r1, hr1, hs1, hj1⟩ := cellAV_cellOf h1
  have hcell1 : cellOf R f1 p1 = some .obj := by obtain ⟨b, path, j⟩ := p1; simp [cellOf, hr1] at hs1 ⊢; simpa [AV.sh] using hs1
  obtain ⟨u1, hu1, hcs1⟩ := ok.cell _ _ _ _ _ _ hr1 hs1
  simp only [AV.sh, CS] at hcs1
  obtain ⟨ho1, hu1e, hblk1⟩ := hcs1
  have ok1 : Ok w G (setR R f1 p1 .junk) := ok.know hr1 hj1 rfl rfl (fun u _ => by simp [CS, AV.sh])
  have hv1 : (Owner.cell f1 p1.base p1.path p1.j).valid R := Or.inr hcell1
  let m : Nat → Option (List Hop) := fun i => if i = 0 then some ((p1.j, 0) :: p1.path) else none
  have hm : ∀ i k, m i = some k → i = 0 ∧ k = (p1.j, 0) :: p1.path := by
    intro i k h; simp only [m] at h; split at h
    · rename_i hi; exact ⟨hi, (Option.some.inj h).symm⟩
    · simp at h
  have hsrc : ∀ q, rowOf R f1 p1.base (q ++ (p1.j, 0) :: p1.path) = (AV.obj x).row (q ++ [(0, 0)]) := by
    intro q
    rw [cellAV_under h1, row_under rfl]
  have M : Moves w G R (setR R f1 p1 .junk) f2 p2 (.obj x) ((G.h f1 p1.base p1.path p1.j).1, 0, (G.h f1 p1.base p1.path p1.j).2.2) f1 p1.base m := by
    constructor
    · intro ow how; exact Owner.valid_leaf hr1 hj1 rfl rfl how
    · intro i i' k k' q q' h3 h4 h5
      obtain ⟨rfl, rfl⟩ := hm i k h3
      obtain ⟨rfl, rfl⟩ := hm i' k' h4
      exact ⟨(through_inj h5).1, rfl⟩
    · intro i k h3; obtain ⟨_, rfl⟩ := hm i k h3; exact inMem_cons _ _ _
    · intro q i r hr
      rw [row_under rfl] at hr
      by_cases hi : i = 0
      · subst hi
        left
        refine ⟨(p1.j, 0) :: p1.path, by simp [m], by rw [hsrc q, row_under rfl]; exact hr, ?_⟩
        intro s hs y e
        subst e
        have := hsrc q
        rw [row_under rfl, hr] at this
        cases q with
        | nil => exact cl _ _ _ _ _ _ this hs
        | cons a q => exact cl _ _ _ _ _ _ this hs
      · simp [AV.elem, hi] at hr
    · intro i k _; exact hw1
    · intro ow how q i k j h3 e
      obtain ⟨_, rfl⟩ := hm i k h3
      subst e
      simp only [Owner.valid] at how
      have : ∀ s, cellOf (setR R f1 p1 .junk) f1 ⟨p1.base, q ++ (p1.j, 0) :: p1.path, j⟩ ≠ some s := by
        intro s hs
        obtain ⟨r, hr, _⟩ := cellOf_row hs
        rw [rowOf_setR_through hr1 hj1 _ rfl, AV.leaf_row rfl rfl] at hr
        simp at hr
      rcases how with ⟨_, _, h⟩ | h
      · exact this _ h
      · exact this _ h
    · intro ow how e
      have hvR := Owner.valid_leaf hr1 hj1 rfl rfl how
      have := ok.inj _ _ hv1 hvR hw1 e.symm
      subst this
      have hh := rowOf_setR_here hr1 .junk rfl
      simp only [Owner.valid, cellOf, hh] at how
      simp [hj1, AV.sh] at how
    · intro q i k j h3 hval e
      obtain ⟨_, rfl⟩ := hm i k h3
      have := ok.inj _ _ hv1 hval hw1 e.symm
      simp only [Owner.cell.injEq, true_and] at this
      exact path_ne_through _ _ _ _ this.1
    · intro i r hr jj s hs
      have hr' : (AV.obj x).row ([] ++ [(0, i)]) = some r := hr
      rw [row_under rfl] at hr'
      by_cases hi : i = 0
      · subst hi
        refine ⟨?_, fun h3 => by simp [m] at h3⟩
        intro k h3
        obtain ⟨_, rfl⟩ := hm 0 k h3
        simp only [conc]
        rw [if_pos (inMem_cons _ _ _)]
        simp only [Gh.addr, ho1]
      · simp [AV.elem, hi] at hr'
    · intro es n he; simp [AV.sh] at he
    · intro u hu
      rw [hhead, hu1] at hu
      obtain rfl := Option.some.inj hu
      refine ⟨by intro es n he; simp [AV.sh] at he, fun _ => ⟨rfl, hu1e, by rw [← hw1]; exact hblk1⟩⟩
    · exact hoff
  have hfin := ok.populate ok1 h2 hj2 hw2 (c := .obj x) rfl (Or.inr rfl) M hl2
  refine ⟨_, hfin, ?_, rfl, rfl, fun f b path hn => Gh.moved_addr f b path hn, ?_⟩
  · intro f b a path r y hr hx
    have hcl := cl.junk hr1 hj1
    rcases rowOf_setR_cases h2 hj2 (c := .obj x) rfl hr with ⟨rfl, rfl, e3, rfl⟩ | ⟨q, i, rfl, rfl, e3, e4⟩ | ⟨_, _, e3⟩
    · rcases List.mem_or_eq_of_mem_set hx with hx | hx
      · exact hcl _ _ _ _ _ _ (by rw [e3]; exact h2) hx
      · simp [AV.sh] at hx
    · rcases M.nodes _ _ _ e4 with ⟨k, _, _, hno⟩ | ⟨_, _, hpl⟩
      · exact hno _ hx _ rfl
      · rcases hpl _ hx with h | ⟨y, h⟩ <;> simp at h
    · exact hcl _ _ _ _ _ _ e3 hx
  · intro b hb ow how hwr e
    rcases ownerKind_of M h2 hj2 rfl ow how with rfl | ⟨q, i, k, j, hk, rfl, hv, hbl⟩ | ⟨hv, hbl⟩
    · simp only [Owner.blk, Gh.moved_here] at e
      exact hb _ hv1 hw1 e
    · exact hb _ hv hw1 (by rw [← hbl]; exact e)
    · exact hb _ (M.sub _ hv) hwr (by rw [← hbl]; exact e)

def AV.owns : AV → Bool
  | .own _ _ => true
  | .obj _ => true
  | _ => false

/-- What a cell owns goes over, whole. -/
theorem OkMove {w : World} {G : Gh} {R : Rt} (ok : Ok w G R) (cl : Clean R) {f1 : Nat} {p1 : Pl} {c : AV} (h1 : cellAV R f1 p1 = some c) (hc : c.owns = true) (hw1 : G.wr f1 = true)
    {f2 : Nat} {p2 : Pl} {r2 : List Sh} (h2 : rowOf (setR R f1 p1 .junk) f2 p2.base p2.path = some r2) (hj2 : p2.j < r2.length) (hl2 : ∀ s, r2[p2.j]? = some s → s.leaf = true) (hw2 : G.wr f2 = true)
    (hhead : conc w G f2 p2.base p2.path p2.j = conc w G f1 p1.base p1.path p1.j)
    (hoff : ∀ f b path r x, rowOf (setR R f1 p1 .junk) f b path = some r → .ref x ∈ r → x.off (TT f2 p2) (NN f2 p2) f) :
    ∃ G', Ok w G' (setR (setR R f1 p1 .junk) f2 p2 c) ∧ Clean (setR (setR R f1 p1 .junk) f2 p2 c) ∧ G'.wr = G.wr ∧ G'.tm = G.tm ∧ AddrKeep G G' f2 p2 ∧ ∀ b, Un G R b → Un G' (setR (setR R f1 p1 .junk) f2 p2 c) b := by
  cases c <;> simp [AV.owns] at hc
  case obj x => exact OkObj ok cl h1 hw1 h2 hj2 hl2 hw2 hhead hoff
  case own es xs =>
    obtain ⟨r1, hr1, hs1, hj1⟩ := cellAV_cellOf h1
    have hcell1 : cellOf R f1 p1 = some (.own es xs.length) := by obtain ⟨b, path, j⟩ := p1; simp [cellOf, hr1] at hs1 ⊢; simpa [AV.sh] using hs1
    obtain ⟨u1, hu1, hcs1⟩ := ok.cell _ _ _ _ _ _ hr1 hs1
    simp only [AV.sh, CS] at hcs1
    obtain ⟨hes, hpos, cap1, hu1e, hcap1, hblk1⟩ := hcs1
    have := OkList ok cl h1 hw1 h2 hj2 hl2 hw2 0 xs.length (by omega) [] (by intro y hy; simp at hy) (G.h f1 p1.base p1.path p1.j).1 (G.h f1 p1.base p1.path p1.j).2.1 cap1 (Or.inl rfl)
      (by intro i jj _ _; rw [Nat.zero_add]) (by intro i y hy; simp at hy) (by rw [hhead, hu1, hu1e]; simp) (by simpa using hcap1) (by rw [← hw1]; exact hblk1) hoff
    simp only [List.drop_zero, List.take_length, List.append_nil] at this
    obtain ⟨G', g1, g2, g3, g4, g6, g5⟩ := this
    refine ⟨G', g1, g2, g3, g4, g6, fun b hu => g5 b hu (fun e => ?_)⟩
    exact hu (Owner.cell f1 p1.base p1.path p1.j) (Or.inl ⟨es, xs.length, hcell1⟩) hw1 e.symm

end Go.Proofs.Ythlehngbadianaa.Ai
/- A call's end. -/
set_option linter.unusedVariables false
set_option linter.unusedSimpArgs false
namespace Go.Proofs.Ythlehngbadianaa.Ai
open Go Go.RowKit

theorem AV.off_mono {T T' : Nat → Pl → Prop} {N N' : Nat → Base → List Hop → Prop} (hT : ∀ f p, T' f p → T f p) (hN : ∀ f b q, N' f b q → N f b q) : ∀ (f : Nat) (x : AV), x.off T N f → x.off T' N' f
  | f, .v _, h => by simp [AV.off]
  | f, .junk, h => by simp [AV.off]
  | 0, .up x, h => by simp [AV.off]
  | f + 1, .up x, h => by simp only [AV.off] at h ⊢; exact AV.off_mono hT hN f x h
  | f, .fn g caps, h => by simp only [AV.off] at h ⊢; exact fun c hc => AV.off_mono hT hN f c (h c hc)
  | f, .sl .., h => by simp only [AV.off] at h ⊢; exact fun e => h (hT _ _ e)
  | f, .sa .., h => by simp only [AV.off] at h ⊢; exact fun e => h (hN _ _ _ e)
  | f, .ptr .., h => by simp only [AV.off] at h ⊢; exact fun e => h (hN _ _ _ e)
  | f, .agg .., h => by simp [AV.off]
  | f, .tup .., h => by simp [AV.off]
  | f, .own .., h => by simp [AV.off]
  | f, .obj .., h => by simp [AV.off]
  | f, .lapp .., h => by simp [AV.off]
termination_by f x => SizeOf.sizeOf x

theorem NoRefs.tt {R : Rt} {f2 : Nat} {p2 : Pl} (h : NoRefs R f2 p2.base) : ∀ f b path r x, rowOf R f b path = some r → .ref x ∈ r → x.off (TT f2 p2) (NN f2 p2) f :=
  fun f b path r x hr hx => AV.off_mono (fun _ _ e => ⟨e.1, e.2.1⟩) (fun _ _ _ e => ⟨e.1, e.2.1⟩) f x (h f b path r x hr hx)

theorem NoRefs.weak {R R' : Rt} {f2 : Nat} {b2 : Base} (h : NoRefs R f2 b2) (hw : Weak R' R) : NoRefs R' f2 b2 := by
  intro f b path r x hr hx
  obtain ⟨r0, hr0, _, hc⟩ := hw _ _ _ _ hr
  obtain ⟨j, hj⟩ := List.getElem?_of_mem hx
  rcases hc j _ hj with h1 | h1
  · simp at h1
  · exact h _ _ _ _ _ hr0 (List.mem_of_getElem? h1)

structure Xf where
  s : Nat
  c : Nat
  j : Nat
  cell : AV

def Xf.run (y : AV) (l : List Xf) : AV := l.foldl (fun y x => y.setCell x.j x.cell) y

theorem setR_root (R : Rt) (f : Nat) (b : Base) (j : Nat) (c : AV) (x : AV) (h : R f b = some x) : (setR R f ⟨b, [], j⟩ c) f b = some (x.setCell j c) := by
  simp [setR, h, AV.setC, AV.sub, AV.setSub]

theorem owns_one {c : AV} (h : c.owns = true) : c.one = true := by cases c <;> simp_all [AV.owns, AV.one]

/-- Cells of slots go over to the cells of another slot. -/
theorem transfer {w : World} {f1 f2 N : Nat} : ∀ (l : List Xf) (G : Gh) (R : Rt) (y : AV), Ok w G R → Clean R → G.wr f1 = true → G.wr f2 = true → R f2 (.sl N) = some y → NoRefs R f2 (.sl N) →
    (∀ x ∈ l, ¬ (f1 = f2 ∧ x.s = N) ∧ cellAV R f1 ⟨.sl x.s, [], x.c⟩ = some x.cell ∧ x.cell.owns = true ∧ y.cells[x.j]? = some .junk ∧ conc w G f2 (.sl N) [] x.j = conc w G f1 (.sl x.s) [] x.c) →
    l.Pairwise (fun a b => (a.s, a.c) ≠ (b.s, b.c) ∧ a.j ≠ b.j) →
    ∃ G' R', Ok w G' R' ∧ Clean R' ∧ G'.wr = G.wr ∧ G'.tm = G.tm ∧ (∀ b, Un G R b → Un G' R' b) ∧ R' f2 (.sl N) = some (Xf.run y l) ∧ ∀ f b, ¬ (f = f2 ∧ b = .sl N) → ¬ (f = f1 ∧ ∃ s, b = .sl s) → R' f b = R f b
  | [], G, R, y, ok, cl, _, _, hN, _, _, _ => ⟨G, R, ok, cl, rfl, rfl, fun _ h => h, hN, fun _ _ _ _ => rfl⟩
  | x :: l, G, R, y, ok, cl, hw1, hw2, hN, hno, hl, hp => by
    obtain ⟨hne, hcell, howns, hyj, hconc⟩ := hl x (by simp)
    have hjlt : x.j < y.cells.length := (List.getElem?_eq_some_iff.1 hyj).1
    obtain ⟨r1, hr1, hs1, hj1⟩ := cellAV_cellOf hcell
    have hrow : rowOf R f2 (.sl N) [] = some (y.cells.map AV.sh) := by simp [rowOf, hN, AV.row, AV.sub]
    have hrow2 : rowOf (setR R f1 ⟨.sl x.s, [], x.c⟩ .junk) f2 (.sl N) [] = some (y.cells.map AV.sh) := by
      rw [rowOf_setR_other hr1 hj1 _ rfl _ _ _ (fun e => hne ⟨e.1.symm, by simpa using e.2.1.symm⟩) (fun e => hne ⟨e.1.symm, by simpa using e.2.1.symm⟩)]
      exact hrow
    have hweak1 := setR_weak_junk hr1 hj1
    obtain ⟨G', hok, hcl, hwr, htm, _, hun⟩ := OkMove ok cl hcell howns hw1 (p2 := ⟨.sl N, [], x.j⟩) hrow2 (by simpa using hjlt) (by intro s hs; simp only [List.getElem?_map, hyj, Option.map_some, Option.some.injEq] at hs; rw [← hs]; rfl) hw2 hconc (NoRefs.tt (p2 := ⟨.sl N, [], x.j⟩) (hno.weak hweak1))
    -- what the new forest says
    have hRN : (setR (setR R f1 ⟨.sl x.s, [], x.c⟩ .junk) f2 ⟨.sl N, [], x.j⟩ x.cell) f2 (.sl N) = some (y.setCell x.j x.cell) := by
      refine setR_root _ _ _ _ _ _ ?_
      simp only [setR]
      rw [if_neg (fun e => hne ⟨e.1.symm, by simpa using e.2.symm⟩)]
      exact hN
    have hno2 : NoRefs (setR (setR R f1 ⟨.sl x.s, [], x.c⟩ .junk) f2 ⟨.sl N, [], x.j⟩ x.cell) f2 (.sl N) := by
      intro f b path r z hr hz
      have hno1 := hno.weak hweak1
      rcases rowOf_setR_cases hrow2 (by simpa using hjlt) (owns_one howns) hr with ⟨rfl, rfl, rfl, rfl⟩ | ⟨q, i, rfl, rfl, rfl, e4⟩ | ⟨_, _, e3⟩
      · rcases List.mem_or_eq_of_mem_set hz with hz | hz
        · exact hno1 _ _ _ _ _ hrow2 hz
        · have := howns
          cases hc : x.cell <;> rw [hc] at hz this <;> simp [AV.sh, AV.owns] at hz this
      · cases q with
        | nil => exact absurd hz (hcl _ _ _ _ _ _ hr)
        | cons a q => exact absurd hz (hcl _ _ _ _ _ _ hr)
      · exact hno1 _ _ _ _ _ e3 hz
    rw [List.pairwise_cons] at hp
    obtain ⟨G2, R2, k1, k2, k3, k4, k5, k6, k7⟩ := transfer l G' _ (y.setCell x.j x.cell) hok hcl (by rw [hwr]; exact hw1) (by rw [hwr]; exact hw2) hRN hno2 (by
      intro x' hx'
      obtain ⟨hne', hcell', howns', hyj', hconc'⟩ := hl x' (by simp [hx'])
      obtain ⟨hd1, hd2⟩ := hp.1 x' hx'
      refine ⟨hne', ?_, howns', ?_, ?_⟩
      · -- the source still owns it
        simp only [cellAV, setR]
        rw [if_neg (fun e => hne' ⟨e.1, by simpa using e.2⟩)]
        by_cases hss : x'.s = x.s
        · simp only [hss, and_self, if_true]
          simp only [cellAV, hss] at hcell'
          simp only [cellAV] at hcell
          cases hx0 : R f1 (.sl x.s) with
          | none => simp [hx0] at hcell
          | some z =>
            simp only [hx0, Option.bind_some, Option.map_some, AV.cellIn, AV.sub] at hcell' hcell ⊢
            have : (z.setC [] x.c .junk) = z.setCell x.c .junk := by simp [AV.setC, AV.sub, AV.setSub]
            rw [this, AV.cells_setCell _ _ _ rfl, List.getElem?_set_ne (fun e => hd1 (by rw [hss, e]))]
            exact hcell'
        · rw [if_neg (fun e => hss (by simpa using e.2))]
          exact hcell'
      · rw [AV.cells_setCell _ _ _ (owns_one howns), List.getElem?_set_ne hd2]
        exact hyj'
      · have e1 : ∀ s j, conc w G' f2 (.sl s) [] j = conc w G f2 (.sl s) [] j := fun s j => by simp [conc, inMem, htm]
        have e2 : ∀ s j, conc w G' f1 (.sl s) [] j = conc w G f1 (.sl s) [] j := fun s j => by simp [conc, inMem, htm]
        rw [e1, e2]
        exact hconc') hp.2
    refine ⟨G2, R2, k1, k2, k3.trans hwr, k4.trans htm, fun b hb => k5 b (hun b hb), k6, ?_⟩
    intro f b h1 h2
    rw [k7 f b h1 h2]
    simp only [setR]
    rw [if_neg h1, if_neg (fun e => h2 ⟨e.1, x.s, e.2⟩)]

end Go.Proofs.Ythlehngbadianaa.Ai
/- A function's contract out of its body's triple. -/
set_option linter.unusedVariables false
set_option linter.unusedSimpArgs false
namespace Go.Proofs.Ythlehngbadianaa.Ai
open Go Go.RowKit

def shapeOf : AV → Option Nat
  | .agg cs => some cs.length
  | _ => none
def notTup : AV → Bool
  | .tup _ _ => false
  | _ => true

/-- The result that slots give. -/
def retAV (fr : Fr) (ts : List Nat) : Option AV :=
  match ts with
  | [t] => fr.sl.get t
  | ts => (ts.mapM fr.sl.get).bind fun xs => if xs.all notTup then some (.tup (xs.map shapeOf) (xs.flatMap AV.cells)) else none

mutual
def upOnly : AV → Bool
  | .v _ => true
  | .junk => true
  | .up _ => true
  | .fn _ caps => upOnlyL caps
  | _ => false
def upOnlyL : List AV → Bool
  | [] => true
  | c :: cs => upOnly c && upOnlyL cs
end
def retC (c : AV) : Bool := c.owns || upOnly c
def skelC (c : AV) : AV := if c.owns then .junk else c
def skel : AV → AV
  | .agg cs => .agg (cs.map skelC)
  | .tup sh cs => .tup sh (cs.map skelC)
  | x => skelC x

def srcsFrom (t : Nat) : Nat → List AV → List (Nat × Nat × AV)
  | _, [] => []
  | i, c :: cs => (t, i, c) :: srcsFrom t (i + 1) cs
def mkXf : Nat → List (Nat × Nat × AV) → List Xf
  | _, [] => []
  | j, (s, c, x) :: l => if x.owns then ⟨s, c, j, x⟩ :: mkXf (j + 1) l else mkXf (j + 1) l

def runL (cs : List AV) (l : List Xf) : List AV := l.foldl (fun cs x => cs.set x.j x.cell) cs

theorem runL_mk : ∀ (srcs : List (Nat × Nat × AV)) (pre : List AV), runL (pre ++ srcs.map fun x => skelC x.2.2) (mkXf pre.length srcs) = pre ++ srcs.map fun x => x.2.2
  | [], pre => by simp [mkXf, runL]
  | (s, c, x) :: l, pre => by
    simp only [mkXf, List.map_cons]
    have ih := runL_mk l (pre ++ [x])
    simp only [List.length_append, List.length_cons, List.length_nil, Nat.zero_add, List.append_assoc, List.cons_append, List.nil_append] at ih
    split
    · rename_i h
      simp only [runL, List.foldl_cons, skelC, h, if_true] at ih ⊢
      rw [← ih]
      congr 1
      rw [List.set_append_right _ _ (Nat.le_refl _)]
      simp
    · rename_i h
      simp only [skelC, h] at ih ⊢
      exact ih

theorem run_agg (cs : List AV) : ∀ (l : List Xf), Xf.run (.agg cs) l = .agg (runL cs l) := by
  intro l
  induction l generalizing cs with
  | nil => rfl
  | cons x l ih => simp only [Xf.run, runL, List.foldl_cons, AV.setCell] at ih ⊢; exact ih _
theorem run_tup (sh : List (Option Nat)) (cs : List AV) : ∀ (l : List Xf), Xf.run (.tup sh cs) l = .tup sh (runL cs l) := by
  intro l
  induction l generalizing cs with
  | nil => rfl
  | cons x l ih => simp only [Xf.run, runL, List.foldl_cons, AV.setCell] at ih ⊢; exact ih _

theorem srcsFrom_map (t : Nat) : ∀ (i : Nat) (cs : List AV), (srcsFrom t i cs).map (fun x => x.2.2) = cs
  | _, [] => rfl
  | i, c :: cs => by simp [srcsFrom, srcsFrom_map t (i + 1) cs]
theorem srcsFrom_mem (t : Nat) : ∀ (i : Nat) (cs : List AV) (x : Nat × Nat × AV), x ∈ srcsFrom t i cs → x.1 = t ∧ i ≤ x.2.1 ∧ cs[x.2.1 - i]? = some x.2.2
  | _, [], x, h => by simp [srcsFrom] at h
  | i, c :: cs, x, h => by
    simp only [srcsFrom, List.mem_cons] at h
    rcases h with rfl | h
    · simp
    · obtain ⟨h1, h2, h3⟩ := srcsFrom_mem t (i + 1) cs x h
      refine ⟨h1, by omega, ?_⟩
      rw [show x.2.1 - i = (x.2.1 - (i + 1)) + 1 by omega]
      simpa using h3
theorem srcsFrom_pair (t : Nat) : ∀ (i : Nat) (cs : List AV), (srcsFrom t i cs).Pairwise fun a b => (a.1, a.2.1) ≠ (b.1, b.2.1)
  | _, [] => .nil
  | i, c :: cs => by
    simp only [srcsFrom, List.pairwise_cons]
    refine ⟨?_, srcsFrom_pair t (i + 1) cs⟩
    intro x hx e
    obtain ⟨_, h2, _⟩ := srcsFrom_mem t (i + 1) cs x hx
    simp only [Prod.mk.injEq] at e
    omega

def allSrcs (fr : Fr) (ts : List Nat) : List (Nat × Nat × AV) := ts.flatMap fun t => srcsFrom t 0 (((fr.sl.get t).map AV.cells).getD [])

theorem mkXf_mem : ∀ (j : Nat) (srcs : List (Nat × Nat × AV)) (x : Xf), x ∈ mkXf j srcs → j ≤ x.j ∧ srcs[x.j - j]? = some (x.s, x.c, x.cell) ∧ x.cell.owns = true
  | _, [], x, h => by simp [mkXf] at h
  | j, (s, c, y) :: l, x, h => by
    simp only [mkXf] at h
    split at h
    · rename_i ho
      rcases List.mem_cons.1 h with rfl | h
      · exact ⟨Nat.le_refl _, by simp, ho⟩
      · obtain ⟨h1, h2, h3⟩ := mkXf_mem (j + 1) l x h
        refine ⟨by omega, ?_, h3⟩
        rw [show x.j - j = (x.j - (j + 1)) + 1 by omega]
        simpa using h2
    · obtain ⟨h1, h2, h3⟩ := mkXf_mem (j + 1) l x h
      refine ⟨by omega, ?_, h3⟩
      rw [show x.j - j = (x.j - (j + 1)) + 1 by omega]
      simpa using h2

theorem mkXf_pair : ∀ (j : Nat) (srcs : List (Nat × Nat × AV)), (srcs.Pairwise fun a b => (a.1, a.2.1) ≠ (b.1, b.2.1)) → (mkXf j srcs).Pairwise fun a b => (a.s, a.c) ≠ (b.s, b.c) ∧ a.j ≠ b.j
  | _, [], _ => .nil
  | j, (s, c, y) :: l, h => by
    rw [List.pairwise_cons] at h
    simp only [mkXf]
    split
    · rw [List.pairwise_cons]
      refine ⟨?_, mkXf_pair (j + 1) l h.2⟩
      intro x hx
      obtain ⟨h1, h2, _⟩ := mkXf_mem (j + 1) l x hx
      exact ⟨h.1 _ (List.mem_of_getElem? h2), by simp only; omega⟩
    · exact mkXf_pair (j + 1) l h.2

theorem skelC_leaf {c : AV} (h : retC c = true) : (skelC c).one = true ∧ (skelC c).sh.leaf = true := by
  unfold skelC
  split
  · exact ⟨rfl, rfl⟩
  · rename_i ho
    cases c <;> simp_all [retC, AV.owns, upOnly, AV.one, AV.sh, Sh.leaf]

mutual
theorem upOnly_hits (b : Base) : ∀ c : AV, upOnly c = true → hits b c = false
  | .v _, _ => rfl
  | .junk, _ => rfl
  | .up _, _ => rfl
  | .fn f caps, h => by simp only [upOnly] at h; simp only [hits]; exact upOnlyL_hits b caps h
  | .agg _, h => by simp [upOnly] at h
  | .tup _ _, h => by simp [upOnly] at h
  | .own _ _, h => by simp [upOnly] at h
  | .obj _, h => by simp [upOnly] at h
  | .sl .., h => by simp [upOnly] at h
  | .sa .., h => by simp [upOnly] at h
  | .ptr .., h => by simp [upOnly] at h
  | .lapp .., h => by simp [upOnly] at h
theorem upOnlyL_hits (b : Base) : ∀ cs : List AV, upOnlyL cs = true → hitsL b cs = false
  | [], _ => rfl
  | c :: cs, h => by
    simp only [upOnlyL, Bool.and_eq_true] at h
    simp only [hitsL, upOnly_hits b c h.1, upOnlyL_hits b cs h.2, Bool.or_self]
end

theorem getElem?_flatMap_srcs (fr : Fr) : ∀ (ts : List Nat) (xs : List AV), ts.mapM fr.sl.get = some xs → (allSrcs fr ts).map (fun x => x.2.2) = xs.flatMap AV.cells
  | [], xs, h => by simp at h; subst h; rfl
  | t :: ts, xs, h => by
    simp only [List.mapM_cons, Option.pure_def, Option.bind_eq_bind, Option.bind_eq_some_iff, Option.some.injEq] at h
    obtain ⟨x, hx, r, hr, rfl⟩ := h
    have := getElem?_flatMap_srcs fr ts r hr
    simp only [allSrcs, List.flatMap_cons, List.map_append, hx, Option.map_some, Option.getD_some, srcsFrom_map] at this ⊢
    rw [this]

theorem allSrcs_mem (fr : Fr) (ts : List Nat) (x : Nat × Nat × AV) (h : x ∈ allSrcs fr ts) : x.1 ∈ ts ∧ ∃ y, fr.sl.get x.1 = some y ∧ y.cells[x.2.1]? = some x.2.2 := by
  simp only [allSrcs, List.mem_flatMap] at h
  obtain ⟨t, ht, hx⟩ := h
  obtain ⟨h1, _, h3⟩ := srcsFrom_mem _ _ _ _ hx
  subst h1
  refine ⟨ht, ?_⟩
  cases hy : fr.sl.get x.1 with
  | none => simp [hy] at h3
  | some y => simp only [hy, Option.map_some, Option.getD_some, Nat.sub_zero] at h3; exact ⟨y, rfl, h3⟩

theorem allSrcs_pair (fr : Fr) : ∀ (ts : List Nat), ts.Nodup → (allSrcs fr ts).Pairwise fun a b => (a.1, a.2.1) ≠ (b.1, b.2.1)
  | [], _ => .nil
  | t :: ts, h => by
    rw [List.nodup_cons] at h
    simp only [allSrcs, List.flatMap_cons]
    refine List.pairwise_append.2 ⟨srcsFrom_pair _ _ _, allSrcs_pair fr ts h.2, ?_⟩
    intro x hx y hy e
    obtain ⟨h1, _⟩ := srcsFrom_mem _ _ _ _ hx
    obtain ⟨h2, _⟩ := allSrcs_mem fr ts y hy
    simp only [Prod.mk.injEq] at e
    rw [← e.1, h1] at h2
    exact h.1 h2

/-- The value that slots give. -/
def retVal (a : Act) (ts : List Nat) : Value :=
  match ts with
  | [t] => a.tmps.getD t undef
  | ts => .tuple (ts.map fun t => a.tmps.getD t undef).toArray

section
variable {P : Program} {n : Nat} {fr : Fr} {F : List Fr} {w : World} {G : Gh} {a : Act}

theorem tup_of : ∀ (ts : List Nat) (xs : List AV), ts.mapM fr.sl.get = some xs → xs.all notTup = true → (∀ k x, fr.sl.get k = some x → Shape x (a.tmps.getD k undef) ∧ ∀ v ∈ flatV (a.tmps.getD k undef), v.oneCell' = true) →
    TupShape (xs.map shapeOf) (ts.map fun t => a.tmps.getD t undef) ∧ tupLen (xs.map shapeOf) = (xs.flatMap AV.cells).length ∧
      ((ts.map fun t => a.tmps.getD t undef).flatMap fun x => x.cells.toList) = (ts.flatMap fun t => flatV (a.tmps.getD t undef))
  | [], xs, h, _, _ => by simp at h; subst h; exact ⟨by simp [TupShape], rfl, rfl⟩
  | t :: ts, xs, h, hn, hs => by
    simp only [List.mapM_cons, Option.pure_def, Option.bind_eq_bind, Option.bind_eq_some_iff, Option.some.injEq] at h
    obtain ⟨x, hx, r, hr, rfl⟩ := h
    simp only [List.all_cons, Bool.and_eq_true] at hn
    obtain ⟨i1, i2, i3⟩ := tup_of ts r hr hn.2 hs
    obtain ⟨hsh, _⟩ := hs t x hx
    have hfl : (a.tmps.getD t undef).cells.toList = flatV (a.tmps.getD t undef) := by
      cases hx1 : x.one with
      | true =>
        have hu : (a.tmps.getD t undef).oneCell' = true := by cases x <;> simp_all [Shape, AV.one]
        rw [cells_of_one hu, flatV_of_one hu]
      | false =>
        cases x <;> simp [AV.one] at hx1
        · obtain ⟨us, hus, _⟩ := hsh; rw [hus]; rfl
        · simp [notTup] at hn
    refine ⟨?_, ?_, by simp only [List.map_cons, List.flatMap_cons, i3, hfl]⟩
    · simp only [List.map_cons]
      cases x <;> simp only [shapeOf, TupShape]
      case agg cs =>
        obtain ⟨us, hus, hl⟩ := hsh
        exact ⟨us, _, by rw [hus], hl, i1⟩
      case tup => simp [notTup] at hn
      all_goals exact ⟨_, _, rfl, hsh, i1⟩
    · simp only [List.map_cons, List.flatMap_cons, List.length_append]
      cases x <;> simp only [shapeOf, tupLen, AV.cells, List.length_singleton, i2]
      all_goals first | omega | simp [notTup] at hn

/-- The result's shape, and where each of its cells comes from. -/
theorem ret_shape {ts : List Nat} {r : AV} (h : Rel w G n a fr F) (hr : retAV fr ts = some r) : Shape r (retVal a ts) ∧ flatV (retVal a ts) = (ts.flatMap fun t => flatV (a.tmps.getD t undef)) ∧ r.cells = (allSrcs fr ts).map fun x => x.2.2 := by
  unfold retAV at hr
  split at hr
  · rename_i t
    obtain ⟨h1, h2⟩ := h.shape t r hr
    refine ⟨h1, by simp [retVal], ?_⟩
    simp [allSrcs, hr, srcsFrom_map]
  · rename_i ts' hts
    simp only [Option.bind_eq_some_iff] at hr
    obtain ⟨xs, hxs, hr⟩ := hr
    split at hr
    · rename_i hn
      simp only [Option.some.injEq] at hr
      subst hr
      obtain ⟨i1, i2, i3⟩ := tup_of (a := a) ts xs hxs hn h.shape
      have hv : retVal a ts = .tuple (ts.map fun t => a.tmps.getD t undef).toArray := by
        unfold retVal
        split
        · rename_i t; exact absurd rfl (hts t)
        · rfl
      rw [hv]
      exact ⟨⟨_, rfl, by simpa using i1, i2⟩, by show (List.flatMap (fun x : Value => x.cells.toList) (List.map _ ts).toArray.toList) = _; exact i3, by rw [getElem?_flatMap_srcs fr ts xs hxs]; rfl⟩
    · simp at hr

theorem flat_get : ∀ (ts : List Nat) (j : Nat) (x : Nat × Nat × AV), (∀ t ∈ ts, ∀ y, fr.sl.get t = some y → (flatV (a.tmps.getD t undef)).length = y.cells.length) → (∀ t ∈ ts, (fr.sl.get t).isSome) → (allSrcs fr ts)[j]? = some x →
    (ts.flatMap fun t => flatV (a.tmps.getD t undef))[j]? = (flatV (a.tmps.getD x.1 undef))[x.2.1]?
  | [], j, x, _, _, h => by simp [allSrcs] at h
  | t :: ts, j, x, hl, hs, h => by
    have hst := hs t (by simp)
    obtain ⟨y, hy⟩ := Option.isSome_iff_exists.1 hst
    have hlen := hl t (by simp) y hy
    have hsl : ∀ i cs, (srcsFrom t i cs).length = cs.length := by
      intro i cs
      induction cs generalizing i with
      | nil => rfl
      | cons c cs ih => simp [srcsFrom, ih]
    have hsg : ∀ (cs : List AV) (i k : Nat) (x : Nat × Nat × AV), (srcsFrom t i cs)[k]? = some x → x.1 = t ∧ x.2.1 = i + k := by
      intro cs
      induction cs with
      | nil => intro i k x h; simp [srcsFrom] at h
      | cons c cs ih =>
        intro i k x h
        cases k with
        | zero => simp [srcsFrom] at h; subst h; simp
        | succ k =>
          simp only [srcsFrom, List.getElem?_cons_succ] at h
          obtain ⟨h1, h2⟩ := ih (i + 1) k x h
          exact ⟨h1, by omega⟩
    simp only [allSrcs, List.flatMap_cons, hy, Option.map_some, Option.getD_some] at h ⊢
    by_cases hj : j < y.cells.length
    · rw [List.getElem?_append_left (by rw [hsl]; exact hj)] at h
      rw [List.getElem?_append_left (by omega)]
      obtain ⟨h1, h2⟩ := hsg _ _ _ _ h
      rw [h1, h2, Nat.zero_add]
    · rw [List.getElem?_append_right (by rw [hsl]; omega), hsl] at h
      rw [List.getElem?_append_right (by omega), hlen]
      exact flat_get ts (j - y.cells.length) x (fun t ht => hl t (by simp [ht])) (fun t ht => hs t (by simp [ht])) h

theorem retAV_isSome {ts : List Nat} {r : AV} (hr : retAV fr ts = some r) : ∀ t ∈ ts, (fr.sl.get t).isSome := by
  unfold retAV at hr
  split at hr
  · rename_i t; intro t' ht; simp at ht; subst ht; simp [hr]
  · simp only [Option.bind_eq_some_iff] at hr
    obtain ⟨xs, hxs, _⟩ := hr
    intro t ht
    have : ∀ (ts : List Nat) (xs : List AV), ts.mapM fr.sl.get = some xs → ∀ t ∈ ts, (fr.sl.get t).isSome := by
      intro ts
      induction ts with
      | nil => intro xs _ t ht; simp at ht
      | cons t0 ts ih =>
        intro xs h t ht
        simp only [List.mapM_cons, Option.pure_def, Option.bind_eq_bind, Option.bind_eq_some_iff, Option.some.injEq] at h
        obtain ⟨x, hx, r, hr, _⟩ := h
        rcases List.mem_cons.1 ht with rfl | ht
        · simp [hx]
        · exact ih r hr t ht
    exact this ts xs hxs t ht

theorem off_le (f2 : Nat) (b2 : Base) : ∀ (f : Nat) (x : AV), (f < f2 ∨ f = f2 ∧ hits b2 x = false) → x.off (fun f p => f = f2 ∧ p.base = b2) (fun f b _ => f = f2 ∧ b = b2) f
  | f, .v _, _ => by simp [AV.off]
  | f, .junk, _ => by simp [AV.off]
  | 0, .up x, _ => by simp [AV.off]
  | f + 1, .up x, h => by simp only [AV.off]; exact off_le f2 b2 f x (Or.inl (by omega))
  | f, .fn g caps, h => by
    simp only [AV.off]
    intro c hc
    refine off_le f2 b2 f c ?_
    rcases h with h | ⟨h1, h2⟩
    · exact Or.inl h
    · exact Or.inr ⟨h1, by simp only [hits] at h2; exact hitsL_mem caps h2 c hc⟩
  | f, .sl .., h => by
    simp only [AV.off]
    rintro ⟨e1, e2⟩
    rcases h with h | ⟨_, h⟩
    · omega
    · simp [hits, e2] at h
  | f, .sa .., h => by
    simp only [AV.off]
    rintro ⟨e1, e2⟩
    rcases h with h | ⟨_, h⟩
    · omega
    · simp [hits, e2] at h
  | f, .ptr .., h => by
    simp only [AV.off]
    rintro ⟨e1, e2⟩
    rcases h with h | ⟨_, h⟩
    · omega
    · simp [hits, e2] at h
  | f, .agg .., _ => by simp [AV.off]
  | f, .tup .., _ => by simp [AV.off]
  | f, .own .., _ => by simp [AV.off]
  | f, .obj .., _ => by simp [AV.off]
  | f, .lapp .., _ => by simp [AV.off]
termination_by f x => SizeOf.sizeOf x

/-- The result goes over to its own frame. -/
theorem Rel.ret (h : Rel w G n a fr F) {ts : List Nat} {r : AV} (hnd : ts.Nodup) (hres : RES ∉ ts) (hr : retAV fr ts = some r) (hc : r.cells.all retC = true) :
    ∃ G', Ok w G' (rootsOf (resFr r :: F)) ∧ Clean (rootsOf (resFr r :: F)) ∧ G'.tm F.length RES = retVal a ts ∧ Shape r (retVal a ts) ∧ (∀ x ∈ flatV (retVal a ts), x.oneCell' = true) ∧ G'.wr = G.wr ∧ (∀ f k, f < F.length → G'.tm f k = G.tm f k) ∧
      ∀ b, Un G (rootsOf (fr :: F)) b → Un G' (rootsOf (resFr r :: F)) b := by
  obtain ⟨hsh, hfv, hcells⟩ := ret_shape h hr
  have hsome := retAV_isSome hr
  have hlens : ∀ t ∈ ts, ∀ y, fr.sl.get t = some y → (flatV (a.tmps.getD t undef)).length = y.cells.length := fun t _ y hy => (h.shape t y hy).1.len
  have hones : ∀ x ∈ flatV (retVal a ts), x.oneCell' = true := by
    intro x hx
    rw [hfv, List.mem_flatMap] at hx
    obtain ⟨t, ht, hx⟩ := hx
    obtain ⟨y, hy⟩ := Option.isSome_iff_exists.1 (hsome t ht)
    exact (h.shape t y hy).2 x hx
  have hk := h.kill (.sl RES)
  have hwk := Weak.kill fr F (.sl RES)
  -- the cells as they are in the forest
  have hsk : (skel r).cells = r.cells.map skelC := by cases r <;> rfl
  have hflat : (skel r).flat := by
    intro c hcm
    rw [hsk, List.mem_map] at hcm
    obtain ⟨c0, h0, rfl⟩ := hcm
    exact skelC_leaf (List.all_eq_true.1 hc c0 h0)
  have hsrc : ∀ (j : Nat) (x : Nat × Nat × AV), (allSrcs fr ts)[j]? = some x → ∃ u, (flatV (retVal a ts))[j]? = some u ∧ conc w G F.length (.sl x.1) [] x.2.1 = some u ∧ CS w G (rootsOf (fr :: F)) F.length (.sl x.1) [] x.2.1 x.2.2.sh u := by
    intro j x hx
    obtain ⟨_, y, hy, hyc⟩ := allSrcs_mem fr ts x (List.mem_of_getElem? hx)
    have hrow : rowOf (rootsOf (fr :: F)) F.length (.sl x.1) [] = some (y.cells.map AV.sh) := by simp [rowOf, rootsOf, Fr.root, hy, AV.row, AV.sub]
    obtain ⟨u, hu, hcs⟩ := h.ok.cell _ _ _ _ x.2.1 x.2.2.sh hrow (by simp [hyc])
    refine ⟨u, ?_, hu, hcs⟩
    rw [hfv, flat_get ts j x hlens hsome hx]
    simpa [conc, inMem, h.tm] using hu
  have hok1 := hk.ok.slot F.length RES (x := skel r) (v := retVal a ts) hflat (fun j c hcj => by
    rw [hsk, hcells, List.map_map, List.getElem?_map, Option.map_eq_some_iff] at hcj
    obtain ⟨x, hx, rfl⟩ := hcj
    obtain ⟨u, hu, _, hcs⟩ := hsrc j x hx
    refine ⟨u, hu, hones u (List.mem_of_getElem? hu), ?_⟩
    simp only [Function.comp, skelC]
    split
    · simp [RV]
    · rename_i hno
      have hrc : retC x.2.2 = true := List.all_eq_true.1 hc _ (by rw [hcells]; exact List.mem_map.2 ⟨x, List.mem_of_getElem? hx, rfl⟩)
      have hb := CS_borrow hcs
      have : borrow1 (.sl x.1) [] x.2.1 x.2.2 = x.2.2 := by cases hxx : x.2.2 <;> simp_all [AV.owns, borrow1]
      rw [this] at hb
      exact RV.le (Wle.refl w) hwk.le _ _ _ hb)
  have hcl1 : Clean (setRoot (rootsOf (fr.kill (.sl RES) :: F)) F.length (.sl RES) (skel r)) := hk.clean.setRoot hflat
  have hno1 : NoRefs (setRoot (rootsOf (fr.kill (.sl RES) :: F)) F.length (.sl RES) (skel r)) F.length (.sl RES) := by
    have hup : ∀ f x, f ≤ F.length → hits (.sl RES) x = false → x.off (fun f p => f = F.length ∧ p.base = .sl RES) (fun f b _ => f = F.length ∧ b = .sl RES) f := by
      intro f x hf hh
      rcases Nat.lt_or_eq_of_le hf with h1 | h1
      · exact off_le _ _ f x (Or.inl h1)
      · exact off_le _ _ f x (Or.inr ⟨h1, hh⟩)
    intro f b path rr x hrr hx
    rcases rowOf_setRoot_flat hflat hrr with ⟨rfl, rfl, rfl, rfl⟩ | ⟨hne, h2⟩
    · rw [List.mem_map] at hx
      obtain ⟨c, hcm, he⟩ := hx
      have hcx : c = x := by cases c <;> simp [AV.sh] at he <;> exact he
      subst hcx
      refine hup _ _ (Nat.le_refl _) ?_
      rw [hsk, List.mem_map] at hcm
      obtain ⟨c0, h0, rfl⟩ := hcm
      unfold skelC
      split
      · rfl
      · rename_i hno
        have := List.all_eq_true.1 hc c0 h0
        simp only [retC, hno, Bool.false_or] at this
        exact upOnly_hits _ _ this
    · by_cases hf : f = F.length
      · subst hf
        cases path with
        | cons q path => exact absurd hx (hk.clean _ _ _ _ _ _ h2)
        | nil =>
          have hroot : rootsOf (fr.kill (.sl RES) :: F) F.length b = (fr.kill (.sl RES)).root b := by simp [rootsOf]
          simp only [rowOf, hroot] at h2
          cases hy : (fr.kill (.sl RES)).root b with
          | none => simp [hy] at h2
          | some y =>
            simp only [hy, Option.bind_some, AV.row, AV.sub, Option.map_some, Option.some.injEq] at h2
            subst h2
            rw [List.mem_map] at hx
            obtain ⟨c, hcm, he⟩ := hx
            have hcx : c = x := by cases c <;> simp [AV.sh] at he <;> exact he
            subst hcx
            exact hup _ _ (Nat.le_refl _) (NoHit.kill fr (.sl RES) b y hy c hcm)
      · by_cases hf2 : f < F.length
        · exact off_le _ _ f x (Or.inl hf2)
        · have : rootsOf (fr.kill (.sl RES) :: F) f b = none := rootsOf_ge _ _ _ (by simp; omega)
          simp [rowOf, this] at h2
  obtain ⟨G2, R2, k1, k2, k3, k4, k5, k6, k7⟩ := transfer (f1 := F.length) (f2 := F.length) (N := RES) (mkXf 0 (allSrcs fr ts)) _ _ (skel r) hok1 hcl1 h.wr0 h.wr0 (by simp [setRoot]) hno1 (by
    intro x hx
    obtain ⟨_, hx2, hx3⟩ := mkXf_mem _ _ _ hx
    simp only [Nat.sub_zero] at hx2
    obtain ⟨m1, y, hy, hyc⟩ := allSrcs_mem fr ts _ (List.mem_of_getElem? hx2)
    simp only at m1 hy hyc
    have hne : x.s ≠ RES := fun e => hres (e ▸ m1)
    obtain ⟨u, hu, hcu, _⟩ := hsrc x.j _ hx2
    refine ⟨fun e => hne e.2, ?_, hx3, ?_, ?_⟩
    · have hnk : killC (.sl RES) x.cell = x.cell := by
        have : hits (.sl RES) x.cell = false := by cases hc : x.cell <;> rw [hc] at hx3 <;> simp_all [AV.owns, hits]
        simp [killC, this]
      simp only [cellAV, setRoot]
      rw [if_neg (fun e => hne (by simpa using e.2))]
      simp only [rootsOf, if_true, Fr.root, Fr.kill, Al.get_mapv, hy, Option.map_some, Option.bind_some, AV.cellIn, AV.sub, killV_cells, List.getElem?_map, hyc, hnk]
    · rw [hsk, hcells, List.map_map, List.getElem?_map, hx2]
      simp [skelC, hx3]
    · have e1 : conc w (G.setTm F.length RES (retVal a ts)) F.length (.sl RES) [] x.j = (flatV (retVal a ts))[x.j]? := by simp [conc, inMem, Gh.setTm]
      have e2 : conc w (G.setTm F.length RES (retVal a ts)) F.length (.sl x.s) [] x.c = conc w G F.length (.sl x.s) [] x.c := by simp [conc, inMem, Gh.setTm, hne]
      rw [e1, e2, hu, hcu]) (mkXf_pair 0 _ (allSrcs_pair fr ts hnd))
  have hrun : Xf.run (skel r) (mkXf 0 (allSrcs fr ts)) = r := by
    have hrl := runL_mk (allSrcs fr ts) []
    simp only [List.nil_append, List.length_nil] at hrl
    have h1 : (allSrcs fr ts).map (fun x => skelC x.2.2) = r.cells.map skelC := by rw [hcells, List.map_map]; rfl
    rw [h1, ← hcells] at hrl
    by_cases hone : r.one = true
    · have hc1 : r.cells = [r] := AV.cells_one hone
      have hsk1 : skel r = skelC r := by cases r <;> first | rfl | simp [AV.one] at hone
      rw [hc1] at hcells
      have hlen : (allSrcs fr ts).length = 1 := by have := congrArg List.length hcells; simpa using this.symm
      obtain ⟨x0, hx0⟩ := List.length_eq_one_iff.1 hlen
      rw [hx0] at hcells ⊢
      simp only [List.map_cons, List.map_nil, List.cons.injEq, and_true] at hcells
      obtain ⟨s0, c0, y0⟩ := x0
      simp only at hcells
      subst hcells
      rw [hsk1]
      by_cases ho : r.owns = true
      · simp only [mkXf, ho, if_true, Xf.run, List.foldl_cons, List.foldl_nil, skelC]
        rfl
      · simp only [mkXf, ho, Xf.run, List.foldl_nil, skelC]
        simp
    · cases r <;> simp [AV.one] at hone
      · rw [show skel (.agg _) = .agg _ from rfl, run_agg]; exact congrArg AV.agg hrl
      · rw [show skel (.tup _ _) = .tup _ _ from rfl, run_tup]; exact congrArg (AV.tup _) hrl
  rw [hrun] at k6
  have hweak : Weak (rootsOf (resFr r :: F)) R2 := by
    refine Weak.roots fun f b => ?_
    by_cases hf : f = F.length
    · subst hf
      simp only [rootsOf, if_true]
      cases b with
      | bx t => left; rfl
      | sl k =>
        by_cases hk : k = RES
        · right
          subst hk
          rw [k6]
          simp [Fr.root, resFr, Al.get]
        · left
          simp [Fr.root, resFr, Al.get, Ne.symm hk]
    · right
      rw [k7 f b (fun e => hf e.1) (fun e => hf e.1)]
      simp only [setRoot, hf, false_and, if_false, rootsOf]
  refine ⟨G2, k1.weaken hweak, hweak.clean k2, by rw [k4]; simp [Gh.setTm], hsh, hones, k3, ?_, ?_⟩
  · intro f k hf
    rw [k4]
    simp only [Gh.setTm]
    rw [if_neg (fun e => by omega)]
  · intro b hb
    refine Un.weak (G := G2) rfl (fun o ho => ⟨hweak.valid ho, rfl⟩) (k5 b ?_)
    refine Un.weak (G := G) rfl (fun o ho => ?_) hb
    have ho' := valid_setRoot_flat hflat ho (by simp)
    exact ⟨hwk.valid ho', by cases o <;> rfl⟩

end
end Go.Proofs.Ythlehngbadianaa.Ai
/- A function's contract out of its body's triple: the end. -/
set_option linter.unusedVariables false
set_option linter.unusedSimpArgs false
namespace Go.Proofs.Ythlehngbadianaa.Ai
open Go Go.RowKit

/-- What a body ends in. -/
def retQ (ts : List Nat) (Q : AV → List Fr → Prop) (e : Exit) (fr : Fr) (F : List Fr) : Prop :=
  match e with
  | .ret | .normal => ∃ r, retAV fr ts = some r ∧ r.cells.all retC = true ∧ Q r F
  | _ => False

theorem retVal_results {fn : Func} {ts : List Nat} (hres : fn.results = (ts.map ResultVar.tmp).toArray) (P : Program) (a : Act) (w : World) : (results fn a.tmps).run P w = .ok (retVal a ts) w := by
  have key : ∀ (g : ResultVar → Sem Value) (ts : List Nat), (∀ t, g (.tmp t) = pure (a.tmps.getD t undef)) → List.mapM g (ts.map ResultVar.tmp) = pure (ts.map fun t => a.tmps.getD t undef) := by
    intro g ts hg
    induction ts with
    | nil => simp
    | cons t ts ih => simp [ih, hg]
  unfold results
  rw [hres, List.mapM_toArray, key _ ts (fun t => rfl)]
  simp only [map_pure, pure_bind]
  cases ts with
  | nil => rfl
  | cons t ts =>
    cases ts with
    | nil => rfl
    | cons t2 ts => rfl

/-- The frame out of which a result was taken. -/
theorem ACalls_of {P : Program} {f : FuncId} {fn : Func} {c : Code} {args : List AV} {F : List Fr} {Q : AV → List Fr → Prop} {ts : List Nat} (hf : P.funcs[f]? = some fn) (hb : fn.body = some c) (hn : args.length ≤ fn.ntmps)
    (hres : fn.results = (ts.map ResultVar.tmp).toArray) (hnd : ts.Nodup) (hno : RES ∉ ts) (h : AW P fn.ntmps c ⟨enterFr 0 args, [], true⟩ F (retQ ts Q)) : ACalls P f args F Q := by
  intro w G vals ok cl hwr hl hv
  refine calls_of_wp hf hb ?_
  obtain ⟨G', hrel, htr⟩ := enter_rel (n := fn.ntmps) ok cl hwr hl (by omega) hv
  refine wp_mono (h w G' _ hrel) ?_
  intro e a' w' hg
  have key : ∀ r fr' F' G2, retAV fr' ts = some r → r.cells.all retC = true → Q r F' → F'.length = F.length → Rel w' G2 fn.ntmps a' fr' F' → Tr F.length w G' (rootsOf (⟨enterFr 0 args, [], true⟩ :: F)) w' G2 (rootsOf (fr' :: F')) →
      a'.defers = [] ∧ ∃ v, (results fn a'.tmps).run P w' = .ok v w' ∧ (∃ v', Ending.returned v = .returned v' ∧ Done F w G Q v' w') := by
    intro r fr' F' G2 h1 h2 h3 h4 h5 h6
    refine ⟨h5.defers, retVal a' ts, retVal_results hres P a' w', retVal a' ts, rfl, ?_⟩
    obtain ⟨G3, k1, k2, k3, k4, k5, k6, k7, k8⟩ := h5.ret hnd hno h1 h2
    refine ⟨r, F', G3, h3, h4, ?_, k1, k2, by rw [← h4]; exact k3, k4, k5, ?_⟩
    · have hw := h5.wr.1
      refine WrC.cong (G := G2) ?_ k6
      refine ⟨fun f hf => ?_, fun i hi => ?_⟩
      · by_cases hff : f = F'.length
        · subst hff; exact h5.wr0
        · exact hw.1 f (by simp at hf ⊢; omega)
      · have := hw.2 (i + 1) (by simpa using hi)
        simp only [List.length_map, List.length_cons, List.map_cons] at this ⊢
        rw [show F'.length - 1 - i = F'.length + 1 - 1 - (i + 1) by omega]
        exact this
    · refine (htr.trans h6).trans ⟨rfl, rfl, rfl, Nat.le_refl _, k6, ?_, fun b _ hu => ⟨rfl, k8 b hu⟩, by rw [← h4]; exact Shp.cons _ _ _⟩
      intro f k hf
      exact k7 f k (by omega)
  cases e with
  | normal => obtain ⟨G2, fr', F', ⟨r, h1, h2, h3⟩, h4, h5, h6⟩ := hg; exact key r fr' F' G2 h1 h2 h3 h4 h5 h6
  | ret => obtain ⟨G2, fr', F', ⟨r, h1, h2, h3⟩, h4, h5, h6⟩ := hg; exact key r fr' F' G2 h1 h2 h3 h4 h5 h6
  | exit id => obtain ⟨_, _, _, h1, _⟩ := hg; exact h1.elim
  | goto l => obtain ⟨_, _, _, h1, _⟩ := hg; exact h1.elim
  | panic ch => obtain ⟨_, _, _, h1, _⟩ := hg; exact h1.elim
  | outgrown => obtain ⟨_, _, _, h1, _⟩ := hg; exact h1.elim

end Go.Proofs.Ythlehngbadianaa.Ai
/- A call's result lands in the caller's slot. -/
set_option linter.unusedVariables false
set_option linter.unusedSimpArgs false
namespace Go.Proofs.Ythlehngbadianaa.Ai
open Go Go.RowKit

mutual
/-- A value of a callee's, as its caller knows it. -/
def unl : AV → AV
  | .v x => .v x
  | .up x => x
  | .fn f caps => .fn f (unlL caps)
  | _ => .junk
def unlL : List AV → List AV
  | [] => []
  | c :: cs => unl c :: unlL cs
end

mutual
/-- A value of the caller's, as its callee knows it. -/
def lift : AV → AV
  | .v x => .v x
  | .junk => .junk
  | .fn f caps => .fn f (liftL caps)
  | .agg cs => .agg (liftL cs)
  | .tup sh cs => .tup sh (liftL cs)
  | x => .up x
def liftL : List AV → List AV
  | [] => []
  | c :: cs => lift c :: liftL cs
end

theorem liftL_eq : ∀ cs : List AV, liftL cs = cs.map lift
  | [] => rfl
  | c :: cs => by simp [liftL, liftL_eq cs]
theorem unlL_eq : ∀ cs : List AV, unlL cs = cs.map unl
  | [] => rfl
  | c :: cs => by simp [unlL, unlL_eq cs]

section
variable {w : World} {G : Gh} {R : Rt}

mutual
theorem RV_unl (f : Nat) : ∀ (c : AV) (u : Value), RV w G R (f + 1) c u → RV w G R f (unl c) u
  | .v x, u, h => by simpa [RV, unl] using h
  | .up x, u, h => by simpa [RV, unl] using h
  | .fn g caps, u, h => by
    simp only [RV, unl] at h ⊢
    obtain ⟨us, h1, h2⟩ := h
    exact ⟨us, h1, RVs_unl f caps _ h2⟩
  | .junk, u, h => by simp [RV, unl]
  | .sl .., u, h => by simp [RV, unl]
  | .sa .., u, h => by simp [RV, unl]
  | .ptr .., u, h => by simp [RV, unl]
  | .agg .., u, h => by simp [RV, unl]
  | .tup .., u, h => by simp [RV, unl]
  | .own .., u, h => by simp [RV, unl]
  | .obj .., u, h => by simp [RV, unl]
  | .lapp .., u, h => by simp [RV, unl]
theorem RVs_unl (f : Nat) : ∀ (cs : List AV) (us : List Value), RVs w G R (f + 1) cs us → RVs w G R f (unlL cs) us
  | [], us, h => by simpa [RVs, unlL] using h
  | c :: cs, us, h => by
    simp only [RVs, unlL] at h ⊢
    obtain ⟨u, r, h1, h2, h3⟩ := h
    exact ⟨u, r, h1, RV_unl f c u h2, RVs_unl f cs r h3⟩
end

mutual
theorem RV_lift (f : Nat) : ∀ (c : AV) (u : Value), RV w G R f c u → RV w G R (f + 1) (lift c) u
  | .v x, u, h => by simpa [RV, lift] using h
  | .up x, u, h => by show RV w G R (f + 1) (.up _) u; simp only [RV]; exact h
  | .fn g caps, u, h => by
    simp only [RV, lift] at h ⊢
    obtain ⟨us, h1, h2⟩ := h
    exact ⟨us, h1, RVs_lift f caps _ h2⟩
  | .junk, u, h => by simp [RV, lift]
  | .sl .., u, h => by show RV w G R (f + 1) (.up _) u; simp only [RV]; exact h
  | .sa .., u, h => by show RV w G R (f + 1) (.up _) u; simp only [RV]; exact h
  | .ptr .., u, h => by show RV w G R (f + 1) (.up _) u; simp only [RV]; exact h
  | .agg .., u, h => by cases f <;> simp [RV] at h
  | .tup .., u, h => by cases f <;> simp [RV] at h
  | .own .., u, h => by cases f <;> simp [RV] at h
  | .obj .., u, h => by cases f <;> simp [RV] at h
  | .lapp .., u, h => by cases f <;> simp [RV] at h
theorem RVs_lift (f : Nat) : ∀ (cs : List AV) (us : List Value), RVs w G R f cs us → RVs w G R (f + 1) (liftL cs) us
  | [], us, h => by simpa [RVs, liftL] using h
  | c :: cs, us, h => by
    simp only [RVs, liftL] at h ⊢
    obtain ⟨u, r, h1, h2, h3⟩ := h
    exact ⟨u, r, h1, RV_lift f c u h2, RVs_lift f cs r h3⟩
end

theorem liftL_length : ∀ cs : List AV, (liftL cs).length = cs.length := fun cs => by rw [liftL_eq]; simp

theorem VR_lift (f : Nat) {x : AV} {u : Value} (h : VR w G R f x u) : VR w G R (f + 1) (lift x) u := by
  obtain ⟨h1, h2, h3⟩ := h
  cases hx : x.one with
  | true =>
    have hx' : (lift x).one = true := by cases x <;> simp_all [lift, AV.one]
    exact (VR_one hx').2 ⟨((VR_one hx).1 ⟨h1, h2, h3⟩).1, RV_lift f x u ((VR_one hx).1 ⟨h1, h2, h3⟩).2⟩
  | false =>
    cases x <;> simp [AV.one] at hx
    · refine ⟨?_, h2, RVs_lift f _ _ h3⟩
      obtain ⟨us, rfl, hl⟩ := h1
      exact ⟨us, rfl, by rw [liftL_length]; exact hl⟩
    · refine ⟨?_, h2, RVs_lift f _ _ h3⟩
      obtain ⟨vs, rfl, hl, hl2⟩ := h1
      exact ⟨vs, rfl, hl, by rw [liftL_length]; exact hl2⟩
end

/-- One cell of a result, landing in slot d; what it owns comes later. -/
def landC (d : Nat) (c : AV) : AV := if c.owns then .junk else killC (.sl d) (unl c)
def landO (d : Nat) (c : AV) : AV := if c.owns then c else killC (.sl d) (unl c)
def mapV (g : AV → AV) : AV → AV
  | .agg cs => .agg (cs.map g)
  | .tup sh cs => .tup sh (cs.map g)
  | x => g x
/-- A result as it lies in slot d. -/
def land (d : Nat) (r : AV) : AV := mapV (landO d) r
def ownOnly (c : AV) : AV := if c.owns then c else .junk

theorem mapV_cells (g : AV → AV) (hg : ∀ x : AV, x.one = true → (g x).one = true) (x : AV) : (mapV g x).cells = x.cells.map g := by
  cases hx : x.one with
  | true =>
    have h1 : mapV g x = g x := by cases x <;> first | rfl | simp [AV.one] at hx
    rw [h1, AV.cells_one (hg x hx), AV.cells_one hx]; rfl
  | false => cases x <;> simp [AV.one] at hx <;> rfl

theorem runL_mk2 (g : AV → AV) : ∀ (srcs : List (Nat × Nat × AV)) (pre : List AV), runL (pre ++ srcs.map fun x => g x.2.2) (mkXf pre.length srcs) = pre ++ srcs.map fun x => if x.2.2.owns then x.2.2 else g x.2.2
  | [], pre => by simp [mkXf, runL]
  | (s, c, x) :: l, pre => by
    simp only [mkXf, List.map_cons]
    split
    · rename_i h
      have ih := runL_mk2 g l (pre ++ [x])
      simp only [List.length_append, List.length_cons, List.length_nil, Nat.zero_add, List.append_assoc, List.cons_append, List.nil_append] at ih
      simp only [runL, List.foldl_cons] at ih ⊢
      rw [← ih]
      congr 1
      rw [List.set_append_right _ _ (Nat.le_refl _)]
      simp
    · rename_i h
      have ih := runL_mk2 g l (pre ++ [g x])
      simp only [List.length_append, List.length_cons, List.length_nil, Nat.zero_add, List.append_assoc, List.cons_append, List.nil_append] at ih
      exact ih

theorem unl_leaf {w : World} {G : Gh} {R : Rt} {f : Nat} {c : AV} {u : Value} (h : RV w G R (f + 1) c u) (d : Nat) : (killC (.sl d) (unl c)).one = true ∧ (killC (.sl d) (unl c)).sh.leaf = true := by
  have h1 := RV_flat (RV_unl f c u h)
  rcases killC_cases (.sl d) (unl c) with e | ⟨e, _, _⟩
  · rw [e]; exact h1
  · rw [e]; exact ⟨rfl, rfl⟩

section
variable {n : Nat} {w : World} {G : Gh} {a : Act} {fr : Fr} {F : List Fr}

/-- The cells of a result. -/
theorem res_cells {r : AV} {v : Value} (ok : Ok w G (rootsOf (resFr r :: fr :: F))) (htm : G.tm (F.length + 1) RES = v) (hsh : Shape r v) (j : Nat) (c : AV) (hc : r.cells[j]? = some c) :
    ∃ u, (flatV v)[j]? = some u ∧ conc w G (F.length + 1) (.sl RES) [] j = some u ∧ CS w G (rootsOf (resFr r :: fr :: F)) (F.length + 1) (.sl RES) [] j c.sh u := by
  have hroot : rootsOf (resFr r :: fr :: F) (F.length + 1) (.sl RES) = some r := by simp [rootsOf, Fr.root, resFr, Al.get]
  have hrow : rowOf (rootsOf (resFr r :: fr :: F)) (F.length + 1) (.sl RES) [] = some (r.cells.map AV.sh) := by simp [rowOf, hroot, AV.row, AV.sub]
  obtain ⟨u, hu, hcs⟩ := ok.cell _ _ _ _ j c.sh hrow (by simp [hc])
  refine ⟨u, ?_, hu, hcs⟩
  simpa [conc, inMem, htm] using hu


theorem Rel.land {r : AV} {v : Value} (ok : Ok w G (rootsOf (resFr r :: fr :: F))) (cl : Clean (rootsOf (resFr r :: fr :: F))) (htm : G.tm (F.length + 1) RES = v) (hsh : Shape r v) (hones : ∀ x ∈ flatV v, x.oneCell' = true)
    (hwr : WrC G ((fr :: F).map Fr.rw)) (hrw : fr.rw = true) (htm0 : ∀ k, G.tm F.length k = a.tmps.getD k undef)
    (hshape : ∀ k x, fr.sl.get k = some x → Shape x (a.tmps.getD k undef) ∧ ∀ v ∈ flatV (a.tmps.getD k undef), v.oneCell' = true) (hsize : a.tmps.size = n) (hdef : a.defers = []) {d : Nat} (hd : d < n) :
    ∃ G', Rel w G' n (a.put (some d) v) ((fr.kill (.sl d)).set d (Ai.land d r)) F ∧ Tr F.length w G (rootsOf (resFr r :: fr :: F)) w G' (rootsOf ((fr.kill (.sl d)).set d (Ai.land d r) :: F)) := by
  have hcell := res_cells ok htm hsh
  have hRVr : ∀ (j : Nat) (c : AV), r.cells[j]? = some c → c.owns = false → ∃ u, (flatV v)[j]? = some u ∧ RV w G (rootsOf (resFr r :: fr :: F)) (F.length + 1) c u := by
    intro j c hc ho
    obtain ⟨u, hu, _, hcs⟩ := hcell j c hc
    have hb := CS_borrow hcs
    have : borrow1 (.sl RES) [] j c = c := by cases hxx : c <;> simp_all [AV.owns, borrow1]
    rw [this] at hb
    exact ⟨u, hu, hb⟩
  let F0 : List Fr := resFr (mapV ownOnly r) :: fr.kill (.sl d) :: F
  have hwk0 : Weak (rootsOf F0) (rootsOf (resFr r :: fr :: F)) := by
    intro f b path r' hr
    by_cases hf : f = F.length + 1
    · subst hf
      have e1 : ∀ y, rootsOf (resFr y :: fr.kill (.sl d) :: F) (F.length + 1) b = (resFr y).root b := fun y => by simp [rootsOf]
      have e2 : ∀ y, rootsOf (resFr y :: fr :: F) (F.length + 1) b = (resFr y).root b := fun y => by simp [rootsOf]
      simp only [rowOf, F0, e1, e2] at hr ⊢
      cases b with
      | bx t => simp [Fr.root, resFr, Al.get] at hr
      | sl k =>
        by_cases hk : RES = k
        · simp only [Fr.root, resFr, Al.get, hk, if_true, Option.bind_some] at hr ⊢
          have hone : ∀ x : AV, x.one = true → (ownOnly x).one = true := fun x hx => by simp only [ownOnly]; split; exact hx; rfl
          cases path with
          | nil =>
            simp only [AV.row, AV.sub, Option.map_some, Option.some.injEq, mapV_cells _ hone] at hr ⊢
            subst hr
            refine ⟨_, rfl, by simp, ?_⟩
            intro j s hs
            simp only [List.getElem?_map, Option.map_eq_some_iff] at hs ⊢
            obtain ⟨c1, ⟨c0, hc0, rfl⟩, rfl⟩ := hs
            simp only [ownOnly]
            split
            · exact Or.inr ⟨_, hc0, rfl⟩
            · exact Or.inl rfl
          | cons a path =>
            have hsub : ∀ (path : List Hop), path ≠ [] → (mapV ownOnly r).sub path = none ∨ (mapV ownOnly r).sub path = r.sub path := by
              intro path
              induction path with
              | nil => intro h; exact absurd rfl h
              | cons a par ih =>
                intro _
                obtain ⟨j, i⟩ := a
                simp only [AV.sub]
                cases par with
                | nil =>
                  simp only [AV.sub, Option.bind_some, mapV_cells _ hone, List.getElem?_map]
                  cases hc : r.cells[j]? with
                  | none => simp
                  | some c =>
                    simp only [Option.map_some, Option.bind_some, ownOnly]
                    split
                    · right; rfl
                    · left; rfl
                | cons b par =>
                  rcases ih (by simp) with h | h
                  · left; rw [h]; rfl
                  · right; rw [h]
            simp only [AV.row] at hr ⊢
            rcases hsub (a :: path) (by simp) with h | h
            · simp [h] at hr
            · rw [h] at hr
              exact ⟨r', hr, rfl, fun _ _ h => Or.inr h⟩
        · simp [Fr.root, resFr, Al.get, hk] at hr
    · have e1 : rootsOf F0 f b = rootsOf (fr.kill (.sl d) :: F) f b := by simp only [F0]; rw [show rootsOf (resFr (mapV ownOnly r) :: fr.kill (.sl d) :: F) f b = _ from rfl]; simp only [rootsOf]; rw [if_neg (by simpa using hf)]
      have e2 : rootsOf (resFr r :: fr :: F) f b = rootsOf (fr :: F) f b := by simp only [rootsOf]; rw [if_neg (by simpa using hf)]
      have := Weak.kill fr F (.sl d) f b path r' (by simpa [rowOf, e1] using hr)
      simpa [rowOf, e2] using this
  have hok0 := ok.weaken hwk0
  have hcl0 := hwk0.clean cl
  -- the slot, but for what it owns
  have hone1 : ∀ (j : Nat) (c : AV), r.cells[j]? = some c → (landC d c).one = true ∧ (landC d c).sh.leaf = true := by
    intro j c hc
    simp only [landC]
    split
    · exact ⟨rfl, rfl⟩
    · rename_i ho
      obtain ⟨u, _, hrv⟩ := hRVr j c hc (by simpa using ho)
      exact unl_leaf hrv d
  have hcl1 : (mapV (landC d) r).cells = r.cells.map (landC d) := by
    cases hr1 : r.one with
    | true =>
      have hc1 : r.cells = [r] := AV.cells_one hr1
      have h0 := hone1 0 r (by rw [hc1]; rfl)
      have h1 : mapV (landC d) r = landC d r := by cases r <;> first | rfl | simp [AV.one] at hr1
      rw [h1, hc1, AV.cells_one h0.1]; rfl
    | false => cases r <;> simp [AV.one] at hr1 <;> rfl
  have hflat : (mapV (landC d) r).flat := by
    intro c hc
    rw [hcl1, List.mem_map] at hc
    obtain ⟨c0, h0, rfl⟩ := hc
    obtain ⟨j, hj⟩ := List.getElem?_of_mem h0
    exact hone1 j c0 hj
  have hlc : ∀ c, c.owns = false → landC d c = landO d c := by intro c hc; simp [landC, landO, hc]
  have hshl : Shape (Ai.land d r) v := by
    cases hr1 : r.one with
    | true =>
      have hc1 : r.cells = [r] := AV.cells_one hr1
      have h0 := hone1 0 r (by rw [hc1]; rfl)
      have h1 : Ai.land d r = landO d r := by cases r <;> first | rfl | simp [AV.one] at hr1
      rw [h1]
      have hv1 : v.oneCell' = true := by cases r <;> simp_all [Shape, AV.one]
      cases ho : r.owns with
      | true => simp only [landO, ho, if_true]; exact hsh
      | false =>
        rw [← hlc r ho]
        have h2 := h0.1
        cases hx : landC d r <;> rw [hx] at h2 <;> simp_all [Shape, AV.one]
    | false =>
      cases r <;> simp [AV.one] at hr1
      · obtain ⟨us, rfl, hl⟩ := hsh; exact ⟨us, rfl, by simpa using hl⟩
      · obtain ⟨vs, rfl, hl1, hl2⟩ := hsh; exact ⟨vs, rfl, hl1, by simpa using hl2⟩
  have hok1 := hok0.slot F.length d (x := mapV (landC d) r) (v := v) hflat (fun j c hc => by
    rw [hcl1, List.getElem?_map, Option.map_eq_some_iff] at hc
    obtain ⟨c0, hc0, rfl⟩ := hc
    obtain ⟨u, hu, _, _⟩ := hcell j c0 hc0
    refine ⟨u, hu, hones u (List.mem_of_getElem? hu), ?_⟩
    simp only [landC]
    split
    · simp [RV]
    · rename_i ho
      obtain ⟨u', hu', hrv⟩ := hRVr j c0 hc0 (by simpa using ho)
      rw [hu] at hu'
      obtain rfl := Option.some.inj hu'
      have h1 := RV.le (Wle.refl w) hwk0.le _ _ _ (RV_unl _ _ _ hrv)
      rcases killC_cases (.sl d) (unl c0) with e | ⟨e, _, _⟩
      · rw [e]; exact h1
      · rw [e]; simp [RV])
  have hcl1' : Clean (setRoot (rootsOf F0) F.length (.sl d) (mapV (landC d) r)) := hcl0.setRoot hflat
  have hno1 : NoRefs (setRoot (rootsOf F0) F.length (.sl d) (mapV (landC d) r)) F.length (.sl d) := by
    intro f b path rr x hrr hx
    rcases rowOf_setRoot_flat hflat hrr with ⟨rfl, rfl, rfl, rfl⟩ | ⟨hne, h2⟩
    · rw [List.mem_map] at hx
      obtain ⟨c, hcm, he⟩ := hx
      have hcx : c = x := by cases c <;> simp [AV.sh] at he <;> exact he
      subst hcx
      refine off_le _ _ _ _ (Or.inr ⟨rfl, ?_⟩)
      rw [hcl1, List.mem_map] at hcm
      obtain ⟨c0, h0, rfl⟩ := hcm
      unfold landC
      split
      · rfl
      · unfold killC
        split
        · rfl
        · rename_i hh; simpa using hh
    · by_cases hf : f = F.length + 1
      · subst hf
        exfalso
        cases path with
        | cons q path => exact hcl0 _ _ _ _ _ _ h2 hx
        | nil =>
          have e1 : rootsOf F0 (F.length + 1) b = (resFr (mapV ownOnly r)).root b := by simp [F0, rootsOf]
          simp only [rowOf, e1] at h2
          cases b with
          | bx t => simp [Fr.root, resFr, Al.get] at h2
          | sl k =>
            by_cases hk : RES = k
            · have hone : ∀ x : AV, x.one = true → (ownOnly x).one = true := fun x hx => by simp only [ownOnly]; split; exact hx; rfl
              simp only [Fr.root, resFr, Al.get, hk, if_true, Option.bind_some, AV.row, AV.sub, Option.map_some, Option.some.injEq, mapV_cells _ hone] at h2
              subst h2
              rw [List.mem_map] at hx
              obtain ⟨c, hcm, he⟩ := hx
              rw [List.mem_map] at hcm
              obtain ⟨c0, _, rfl⟩ := hcm
              unfold ownOnly at he
              split at he
              · rename_i ho; cases c0 <;> simp_all [AV.sh, AV.owns]
              · simp [AV.sh] at he
            · simp [Fr.root, resFr, Al.get, hk] at h2
      · by_cases hf2 : f = F.length
        · subst hf2
          cases path with
          | cons q path => exact absurd hx (hcl0 _ _ _ _ _ _ h2)
          | nil =>
            have hroot : rootsOf F0 F.length b = (fr.kill (.sl d)).root b := by simp [F0, rootsOf]
            simp only [rowOf, hroot] at h2
            cases hy : (fr.kill (.sl d)).root b with
            | none => simp [hy] at h2
            | some y =>
              simp only [hy, Option.bind_some, AV.row, AV.sub, Option.map_some, Option.some.injEq] at h2
              subst h2
              rw [List.mem_map] at hx
              obtain ⟨c, hcm, he⟩ := hx
              have hcx : c = x := by cases c <;> simp [AV.sh] at he <;> exact he
              subst hcx
              exact off_le _ _ _ _ (Or.inr ⟨rfl, NoHit.kill fr (.sl d) b y hy c hcm⟩)
        · by_cases hf3 : f < F.length
          · exact off_le _ _ _ _ (Or.inl hf3)
          · have : rootsOf F0 f b = none := rootsOf_ge _ _ _ (by simp [F0]; omega)
            simp [rowOf, this] at h2
  have hw1 : G.wr F.length = true := by
    have := hwr.2 0 (by simp [hrw])
    simpa using this
  have hw2 : G.wr (F.length + 1) = true := hwr.1 _ (by simp)
  have hcells0 : r.cells = (srcsFrom RES 0 r.cells).map fun x => x.2.2 := (srcsFrom_map RES 0 r.cells).symm
  have hsg : ∀ (cs : List AV) (i k : Nat) (x : Nat × Nat × AV), (srcsFrom RES i cs)[k]? = some x → x.1 = RES ∧ x.2.1 = i + k ∧ cs[k]? = some x.2.2 := by
    intro cs
    induction cs with
    | nil => intro i k x h; simp [srcsFrom] at h
    | cons c cs ih =>
      intro i k x h
      cases k with
      | zero => simp [srcsFrom] at h; subst h; simp
      | succ k =>
        simp only [srcsFrom, List.getElem?_cons_succ] at h
        obtain ⟨h1, h2, h3⟩ := ih (i + 1) k x h
        exact ⟨h1, by omega, by simpa using h3⟩
  obtain ⟨G2, R2, k1, k2, k3, k4, k5, k6, k7⟩ := transfer (f1 := F.length + 1) (f2 := F.length) (N := d) (mkXf 0 (srcsFrom RES 0 r.cells)) _ _ (mapV (landC d) r) hok1 hcl1' hw2 hw1 (by simp [setRoot]) hno1 (by
    intro x hx
    obtain ⟨_, hx2, hx3⟩ := mkXf_mem _ _ _ hx
    simp only [Nat.sub_zero] at hx2
    obtain ⟨m1, m2, m3⟩ := hsg _ _ _ _ hx2
    simp only at m1 m2 m3
    obtain ⟨u, hu, hcu, _⟩ := hcell x.j _ m3
    refine ⟨fun e => by omega, ?_, hx3, ?_, ?_⟩
    · have hone : ∀ x : AV, x.one = true → (ownOnly x).one = true := fun x hx => by simp only [ownOnly]; split; exact hx; rfl
      simp only [cellAV, setRoot]
      rw [if_neg (fun e => by omega)]
      have e1 : rootsOf F0 (F.length + 1) (.sl x.s) = some (mapV ownOnly r) := by simp [F0, rootsOf, Fr.root, resFr, Al.get, m1]
      rw [e1]
      simp only [Option.bind_some, AV.cellIn, AV.sub, mapV_cells _ hone, List.getElem?_map]
      rw [show x.c = x.j by omega, m3]
      simp [ownOnly, hx3]
    · rw [hcl1, List.getElem?_map, m3]
      simp [landC, hx3]
    · have e1 : conc w (G.setTm F.length d v) F.length (.sl d) [] x.j = (flatV v)[x.j]? := by simp [conc, inMem, Gh.setTm]
      have e2 : conc w (G.setTm F.length d v) (F.length + 1) (.sl x.s) [] x.c = conc w G (F.length + 1) (.sl RES) [] x.j := by simp [conc, inMem, Gh.setTm, m1, show x.c = x.j by omega]
      rw [e1, e2, hu, hcu]) (mkXf_pair 0 _ (srcsFrom_pair _ _ _))
  have hrun : Xf.run (mapV (landC d) r) (mkXf 0 (srcsFrom RES 0 r.cells)) = Ai.land d r := by
    have hrl := runL_mk2 (landC d) (srcsFrom RES 0 r.cells) []
    simp only [List.nil_append, List.length_nil] at hrl
    have h1 : (srcsFrom RES 0 r.cells).map (fun x => landC d x.2.2) = r.cells.map (landC d) := by conv => rhs; rw [hcells0]; 
                                                                                                  rw [List.map_map]; rfl
    have h2 : (srcsFrom RES 0 r.cells).map (fun x => if x.2.2.owns then x.2.2 else landC d x.2.2) = r.cells.map (landO d) := by
      conv => rhs; rw [hcells0]
      rw [List.map_map]
      refine List.map_congr_left fun x _ => ?_
      simp only [Function.comp, landO, landC]
      split <;> rfl
    rw [h1, h2] at hrl
    cases hr1 : r.one with
    | true =>
      have hc1 : r.cells = [r] := AV.cells_one hr1
      have h3 : mapV (landC d) r = landC d r := by cases r <;> first | rfl | simp [AV.one] at hr1
      have h4 : Ai.land d r = landO d r := by cases r <;> first | rfl | simp [AV.one] at hr1
      rw [h3, h4, hc1]
      cases ho : r.owns with
      | true =>
        simp only [srcsFrom, mkXf, ho, if_true, Xf.run, List.foldl_cons, List.foldl_nil, landC, landO]
        rfl
      | false =>
        simp only [srcsFrom, mkXf, ho, Bool.false_eq_true, if_false, Xf.run, List.foldl_nil]
        exact hlc r ho
    | false =>
      cases r <;> simp [AV.one] at hr1
      · rw [show mapV (landC d) (.agg _) = .agg _ from rfl, run_agg]; exact congrArg AV.agg hrl
      · rw [show mapV (landC d) (.tup _ _) = .tup _ _ from rfl, run_tup]; exact congrArg (AV.tup _) hrl
  rw [hrun] at k6
  have hweak : Weak (rootsOf ((fr.kill (.sl d)).set d (Ai.land d r) :: F)) R2 := by
    refine Weak.roots fun f b => ?_
    by_cases hf : f = F.length
    · subst hf
      simp only [rootsOf, if_true]
      by_cases hb : b = .sl d
      · subst hb
        right
        rw [k6]
        simp [Fr.root, Fr.set, Al.get_set]
      · right
        rw [k7 F.length b (fun e => hb e.2) (fun e => by omega)]
        simp only [setRoot, hb, and_false, if_false, F0, rootsOf, List.length_cons]
        rw [if_neg (by omega)]
        simp only [if_true]
        cases b with
        | bx t => rfl
        | sl k => simp only [Fr.root, Fr.set, Al.get_set]; rw [if_neg (fun e => hb (by rw [e]))]
    · by_cases hf1 : f = F.length + 1
      · left
        exact rootsOf_ge _ _ _ (by simp; omega)
      · right
        rw [k7 f b (fun e => hf e.1) (fun e => hf1 e.1)]
        simp only [setRoot, hf, false_and, if_false, F0, rootsOf]
        rw [if_neg (by simpa using hf1)]
  have hdn : d < a.tmps.size := by omega
  refine ⟨G2, ⟨k1.weaken hweak, ?_, ?_, by simp [Act.put, hsize], ?_, hdef, hweak.clean k2⟩, rfl, rfl, rfl, Nat.le_refl _, k3, ?_, ?_, ?_⟩
  · intro k
    rw [k4, getD_put _ _ _ _ hdn]
    simp only [Gh.setTm, true_and, htm0]
  · intro k y hy
    rw [getD_put _ _ _ _ hdn]
    simp only [Fr.set, Al.get_set] at hy
    by_cases hk : k = d
    · simp only [hk, if_true, Option.some.injEq] at hy ⊢; subst hy; exact ⟨hshl, hones⟩
    · simp only [hk, if_false] at hy ⊢
      simp only [Fr.kill, Al.get_mapv, Option.map_eq_some_iff] at hy
      obtain ⟨y0, hy0, rfl⟩ := hy
      exact ⟨killV_shape (hshape k y0 hy0).1, (hshape k y0 hy0).2⟩
  · refine ⟨hwr.cong k3, ?_⟩
    simpa [Fr.set, Fr.kill] using hrw
  · intro f k hf
    rw [k4]
    simp only [Gh.setTm]
    rw [if_neg (fun e => by omega)]
  · intro b _ hb
    refine ⟨rfl, Un.weak (G := G2) rfl (fun o ho => ⟨hweak.valid ho, rfl⟩) (k5 b ?_)⟩
    refine Un.weak (G := G) rfl (fun o ho => ?_) hb
    have ho' := valid_setRoot_flat hflat ho (by simp)
    exact ⟨hwk0.valid ho', by cases o <;> rfl⟩
  · refine Shp.of_eq fun f k hf => ?_
    rw [rootsOf_lt _ _ _ _ hf]
    simp only [rootsOf]
    rw [if_neg (by simp; omega), if_neg (by omega)]

end
end Go.Proofs.Ythlehngbadianaa.Ai
/- A call: the rule. -/
set_option linter.unusedVariables false
set_option linter.unusedSimpArgs false
namespace Go.Proofs.Ythlehngbadianaa.Ai
open Go Go.RowKit

def callQ (d : Nat) (K : Post) (r : AV) (F' : List Fr) : Prop :=
  match F' with
  | fr :: F => fr.rw = true ∧ K ((fr.kill (.sl d)).set d (land d r)) F
  | [] => False

theorem run_call {P : Program} {a : Act} {w : World} {o : Oper} {f : FuncId} {fn : Func} {args : Array Operand} {ats : Array TypeId} (hop : o.op = .call { callee := .value (.func f), args, argTypes := ats })
    (hf : P.funcs[f]? = some fn) (hname : (fn.name == "runtime.NumGoroutine") = false) (hb : fn.body.isNone = false) : (execOp a.eval o).run P w = .ok (.enter f (args.map a.eval)) w := by
  have h1 : ¬ fn.name = "runtime.NumGoroutine" := by simpa using hname
  have h2 : ¬ fn.body = none := by cases hx : fn.body <;> simp_all
  unfold execOp
  simp [hop, resolve, Deferred.ofValue, invoke, callFunc, hf, h1, h2, Act.eval]

def evs (fr : Fr) : List Operand → Option (List AV)
  | [] => some []
  | x :: l => match opd x with
    | some ox => match fr.ev ox with
      | some z => (evs fr l).map (z :: ·)
      | none => none
    | none => none

section
variable {P : Program} {n : Nat} {fr : Fr} {F : List Fr}

theorem evs_spec {w : World} {G : Gh} {a : Act} (h : Rel w G n a fr F) : ∀ (l : List Operand) (xs : List AV), evs fr l = some xs → l.length = xs.length ∧ ∀ (i : Nat) (x : AV), xs[i]? = some x → ∃ u, (l.map a.eval)[i]? = some u ∧ VR w G (rootsOf (fr :: F)) F.length x u
  | [], xs, he => by simp [evs] at he; subst he; simp
  | x :: l, xs, he => by
    simp only [evs] at he
    split at he
    · rename_i ox hox
      split at he
      · rename_i z hz
        simp only [Option.map_eq_some_iff] at he
        obtain ⟨xs', he, rfl⟩ := he
        obtain ⟨h1, h2⟩ := evs_spec h l xs' he
        refine ⟨by simp [h1], ?_⟩
        intro i y hy
        cases i with
        | zero =>
          simp at hy; subst hy
          have := h.ev hz
          rw [opd_to hox] at this
          exact ⟨_, by simp, this⟩
        | succ i => simp at hy; simpa using h2 i y hy
      · simp at he
    · simp at he

theorem AOp_call {o : Oper} {f : FuncId} {fn : Func} {args : Array Operand} {ats : Array TypeId} {d : Nat} {K : Post} {xs : List AV} (hop : o.op = .call { callee := .value (.func f), args, argTypes := ats })
    (hf : P.funcs[f]? = some fn) (hname : (fn.name == "runtime.NumGoroutine") = false) (hb : fn.body.isNone = false) (hd : o.dst = some d) (hdn : d < n) (hargs : evs fr args.toList = some xs)
    (hc : ACalls P f (liftL xs) (fr :: F) (callQ d K)) : AOp P n o fr F K := by
  intro w G a h
  have hrun := run_call (P := P) (a := a) (w := w) hop hf hname hb
  simp only [Oper.wp, hrun, Oper.upon]
  obtain ⟨hl, hv⟩ := evs_spec h _ _ hargs
  have hwr : WrC G ((fr :: F).map Fr.rw) := h.wr.1
  have hcalls := hc w G (args.map a.eval) h.ok h.clean hwr (by rw [liftL_length, ← hl]; simp) (by
    intro i x hx
    rw [liftL_eq, List.getElem?_map, Option.map_eq_some_iff] at hx
    obtain ⟨y, hy, rfl⟩ := hx
    obtain ⟨u, hu, hvr⟩ := hv i y hy
    refine ⟨u, ?_, by simpa using VR_lift _ hvr⟩
    rw [Array.getElem?_map, ← Array.getElem?_toList, ← List.getElem?_map]
    exact hu)
  refine hcalls.mono ?_
  rintro e w' ⟨v, rfl, r, F', G', hq, hlen, hwr', hok, hcl, htm, hsh, hones, htr⟩
  cases F' with
  | nil => exact hq.elim
  | cons fr1 F1 =>
    obtain ⟨hrw, hk⟩ := hq
    have hl1 : F1.length = F.length := by simpa using hlen
    have htm0 : ∀ k, G'.tm F1.length k = a.tmps.getD k undef := by
      intro k
      rw [hl1, htr.tm F.length k (by simp)]
      exact h.tm k
    have hshape : ∀ k x, fr1.sl.get k = some x → Shape x (a.tmps.getD k undef) ∧ ∀ v ∈ flatV (a.tmps.getD k undef), v.oneCell' = true := by
      intro k x hx
      obtain ⟨x0, h1, h2⟩ := htr.shp F.length k x (by simp) (by rw [← hl1]; simp [rootsOf, Fr.root, hx])
      have h3 : fr.sl.get k = some x0 := by simpa [rootsOf, Fr.root] using h1
      obtain ⟨h4, h5⟩ := h.shape k x0 h3
      exact ⟨h2 _ h4, h5⟩
    obtain ⟨G2, hrel, htr2⟩ := Rel.land (n := n) (a := a) hok hcl (by rw [← htm, List.length_cons, hl1]) hsh hones hwr' hrw htm0 hshape h.size h.defers hdn
    refine ⟨G2, _, _, hk, hl1, by rw [hd]; exact hrel, ?_⟩
    have t1 : Tr F.length w G (rootsOf (fr :: F)) w' G' (rootsOf (resFr r :: fr1 :: F1)) := ⟨htr.os, htr.tape, htr.output, htr.size, htr.wr, fun f k hf => htr.tm f k (by simp; omega), htr.keep, htr.shp.mono (by simp)⟩
    rw [hl1] at htr2
    exact t1.trans htr2

end
end Go.Proofs.Ythlehngbadianaa.Ai
/- Regions that draw their order. -/
set_option linter.unusedVariables false
set_option linter.unusedSimpArgs false
namespace Go.Proofs.Ythlehngbadianaa.Ai
open Go Go.RowKit

section
variable {P : Program} {n : Nat}

/-- Whatever order is picked; behind a calm operation what was there is there. -/
def wpAnyC (P : Program) (ops : Array Oper) (Q : Exit → Act → World → Prop) (calm : Nat → Bool) : Nat → Array Bool → Act → World → Prop
  | 0, listed, a, w => Region.ready .any ops listed = [] ∧ Q .normal a w
  | fuel + 1, listed, a, w =>
    (Region.ready .any ops listed = [] → Q .normal a w) ∧
    ∀ i ∈ Region.ready .any ops listed, wpOp P ops Q i (fun a' w' => (calm i = true → Below w.heap.size w w') ∧ wpAnyC P ops Q calm fuel (listed.setIfInBounds i true) a' w') a w

theorem wpAny_of_calm {ops : Array Oper} {Q : Exit → Act → World → Prop} {calm : Nat → Bool} : ∀ (fuel : Nat) (listed : Array Bool) (a : Act) (w : World), wpAnyC P ops Q calm fuel listed a w → wpAny P .any ops Q fuel listed a w
  | 0, _, _, _, h => h
  | fuel + 1, _, _, _, h => ⟨h.1, fun i hi => Go.wpOp_mono (fun a' w' h' => wpAny_of_calm fuel _ a' w' h'.2) (h.2 i hi)⟩

/-- In each world of S the operation gives v. -/
def YieldsS (P : Program) (ops : Array Oper) (S : World → Prop) (o : Oper) (v : Value) (a : Act) : Prop :=
  (Region.wanted o (yielded ops a.tmps) = true ∧ ∀ w, S w → (execOp a.eval o).run P w = .ok (.value v) w) ∨
  (Region.wanted o (yielded ops a.tmps) = false ∧ v = undef)

section
variable {ops : Array Oper} {S : World → Prop} {Q : Exit → Act → World → Prop} {calm : Nat → Bool}

theorem YieldsS.wpOp {i : Nat} {o : Oper} {v : Value} {a : Act} (hi : ops[i]? = some o) (hy : YieldsS P ops S o v a)
    {K : Act → World → Prop} {w : World} (hS : S w) (h : K (a.put o.dst v) w) : wpOp P ops Q i K a w := by
  unfold Go.wpOp
  simp only [hi]
  rcases hy with ⟨hw, hv⟩ | ⟨hw, rfl⟩
  · simp only [hw, if_true, Oper.wp, hv w hS, Oper.upon]; exact .inl h
  · simp only [hw, Bool.false_eq_true, if_false]; exact h

theorem YieldsS.of_same {o : Oper} {v : Value} {a a' : Act} (hy : YieldsS P ops S o v a) (he : execOp a'.eval o = execOp a.eval o)
    (hw : Region.wanted o (yielded ops a'.tmps) = Region.wanted o (yielded ops a.tmps)) : YieldsS P ops S o v a' := by
  unfold YieldsS at *
  rw [he, hw]
  exact hy

theorem wpOp_putS {j : Nat} {oi oj : Oper} {v : Value} (hj : ops[j]? = some oj) (hap : oi.apart ops oj = true)
    (hsi : ∀ cs b, oi.op ≠ .select cs b) (hsj : ∀ cs b, oj.op ≠ .select cs b)
    (hQ : ∀ c a w, Q (.panic c) (a.put oi.dst v) w → Q (.panic c) a w) {K : Act → World → Prop} {a : Act} {w : World}
    (hy : YieldsS P ops S oi v a) (h : wpOp P ops Q j K (a.put oi.dst v) w) :
    wpOp P ops Q j (fun a' w' => YieldsS P ops S oi v a' ∧ K (a'.put oi.dst v) w') a w := by
  obtain ⟨h1, h2, h3⟩ := Oper.apart_spec hap
  have keep : ∀ (a : Act), YieldsS P ops S oi v a → ∀ u, YieldsS P ops S oi v (a.put oj.dst u) := fun a hy u =>
    hy.of_same (execOp_put oi hsi a oj.dst u h3) (wanted_put oi a oj.dst u h3)
  have keepD : ∀ d, YieldsS P ops S oi v { a with defers := d :: a.defers } := fun d => hy.of_same rfl rfl
  unfold wpOp at *
  simp only [hj] at *
  rw [wanted_put oj a oi.dst v h1] at h
  split
  · rename_i hw
    simp only [hw, if_true] at h
    rcases h with h | ⟨hasks, hlets⟩
    case inr => exact .inr ⟨by unfold Oper.asks at *; rw [execOp_put oj hsj a oi.dst v h1] at hasks; exact hasks, hlets⟩
    refine .inl ?_
    unfold Oper.wp at *
    rw [execOp_put oj hsj a oi.dst v h1] at h
    generalize (execOp a.eval oj).run P w = r at *
    cases r with
    | ok n w' =>
      cases n <;> simp only [Oper.upon] at h ⊢
      case value u => exact ⟨keep a hy u, by rw [← Act.put_comm a v u h2]; exact h⟩
      case skip => exact ⟨keep a hy _, by rw [← Act.put_comm a v undef h2]; exact h⟩
      case defer d =>
        refine ⟨keep _ (keepD d) _, ?_⟩
        rw [← Act.put_comm _ v undef h2, ← Act.put_defers]
        exact h
      case enter f args =>
        refine Calls.mono h fun e w'' he => ?_
        cases e with
        | returned u => exact ⟨keep a hy u, by rw [← Act.put_comm a v u h2]; exact he⟩
        | panicked c => exact hQ _ _ _ he
        | outgrown => exact he
      case row row args => exact Rows.mono h fun u w'' he => ⟨keep a hy u, by rw [← Act.put_comm a v u h2]; exact he⟩
    | halt x w' =>
      cases x <;> simp only [Oper.upon] at h ⊢
      case panic u => exact hQ _ _ _ h
  · rename_i hw
    simp only [hw] at h
    exact ⟨keep a hy _, by rw [← Act.put_comm a v undef h2]; exact h⟩

/-- An operation that may come up now may be taken first. -/
theorem wpAnyC_first {i : Nat} {oi : Oper} {v : Value} (hi : ops[i]? = some oi) (hsel : ∀ (j : Nat) (o : Oper) cs b, ops[j]? = some o → o.op ≠ .select cs b)
    (hQ : ∀ c a w, Q (.panic c) (a.put oi.dst v) w → Q (.panic c) a w) (hSB : ∀ w w', S w → Below w.heap.size w w' → S w') :
    ∀ (D : Nat → Bool), (∀ j, D j = true → ∃ oj, ops[j]? = some oj ∧ ∃ e ∈ oj.after, Region.binds .any e = true ∧ (e.on = i ∨ D e.on = true)) →
    ∀ (fuel : Nat) (listed : Array Bool) (a : Act) (w : World), (∀ j, D j = true → listed.getD j true = false) →
      (∀ j oj, ops[j]? = some oj → j ≠ i → listed.getD j true = false → D j = false → oi.apart ops oj = true ∧ ((∀ w, S w) ∨ calm j = true)) →
      i ∈ Region.ready .any ops listed → YieldsS P ops S oi v a → S w →
      wpAnyC P ops Q calm fuel (listed.setIfInBounds i true) (a.put oi.dst v) w → wpAnyC P ops Q calm (fuel + 1) listed a w := by
  intro D hDc fuel
  induction fuel with
  | zero =>
    intro listed a w _ _ hr hy hS H
    refine ⟨fun h => (by rw [h] at hr; cases hr), fun j hj => ?_⟩
    by_cases hji : j = i
    · subst hji; exact hy.wpOp hi hS ⟨fun _ => Below.refl _ _, H⟩
    · have := ready_mono hj hji
      rw [H.1] at this
      cases this
  | succ fuel ih =>
    intro listed a w hDl hfree hr hy hS H
    refine ⟨fun h => (by rw [h] at hr; cases hr), fun j hj => ?_⟩
    by_cases hji : j = i
    · subst hji; exact hy.wpOp hi hS ⟨fun _ => Below.refl _ _, H⟩
    · have h1 := H.2 j (ready_mono hj hji)
      obtain ⟨hjun, oj, hoj, hall⟩ := mem_ready.1 hj
      have hno : ∀ k, (k = i ∨ D k = true) → listed.getD k false = false := fun k hk => by
        have h0 : listed.getD k true = false := by
          rcases hk with rfl | hk
          · exact (mem_ready.1 hr).1
          · exact hDl k hk
        rcases Nat.lt_or_ge k listed.size with h' | h'
        · simp [h'] at h0 ⊢; exact h0
        · simp [Array.getElem?_eq_none h']
      have hnot : D j = false := by
        cases hDj : D j with
        | false => rfl
        | true =>
          obtain ⟨oj', hoj', e, he, hb, hk⟩ := hDc j hDj
          rw [hoj] at hoj'
          simp only [Option.some.injEq] at hoj'
          subst hoj'
          have h1 := hall e he hb
          rw [hno e.on hk] at h1
          cases h1
      obtain ⟨hap, hcal⟩ := hfree j oj hoj hji hjun hnot
      have h2 := wpOp_putS hoj hap (fun cs b => hsel i oi cs b hi) (fun cs b => hsel j oj cs b hoj) hQ hy h1
      have hfree' : ∀ k ok, ops[k]? = some ok → k ≠ i → (listed.setIfInBounds j true).getD k true = false →
          D k = false → oi.apart ops ok = true ∧ ((∀ w, S w) ∨ calm k = true) := fun k ok hk hki hun hno => by
        refine hfree k ok hk hki ?_ hno
        by_cases hjk : j = k
        · subst hjk; exact hjun
        · rw [getD_set_ne true hjk] at hun; exact hun
      refine Go.wpOp_mono (fun a' w' h3 => ?_) h2
      have hDl' : ∀ k, D k = true → (listed.setIfInBounds j true).getD k true = false := fun k hk => by
        by_cases hjk : j = k
        · subst hjk; rw [hnot] at hk; cases hk
        · rw [getD_set_ne true hjk]; exact hDl k hk
      have hS' : S w' := by
        rcases hcal with hc | hc
        · exact hc _
        · exact hSB _ _ hS (h3.2.1 hc)
      refine ⟨h3.2.1, ih (listed.setIfInBounds j true) a' w' hDl' hfree' (ready_mono hr (Ne.symm hji)) h3.1 hS' ?_⟩
      rw [Array.setIfInBounds_comm _ _ hji]
      exact h3.2.2

end

/-- What comes behind number i, in one step or in many. -/
def depStep (ops : Array Oper) (i m j : Nat) : Nat :=
  match ops[j]? with
  | some oj => if oj.after.any (fun e => Region.binds .any e && (e.on == i || m.testBit e.on)) = true then m ||| 2 ^ j else m
  | none => m
def depL (ops : Array Oper) (i : Nat) : List Nat → Nat → Nat
  | [], m => m
  | j :: l, m => depL ops i l (depStep ops i m j)
def depD (ops : Array Oper) (i : Nat) : Nat := depL ops i (List.range ops.size) 0
theorem depStep_mono {ops : Array Oper} {i m j k : Nat} (h : m.testBit k = true) : (depStep ops i m j).testBit k = true := by
  unfold depStep
  split
  · split
    · rw [Nat.testBit_or, h]; rfl
    · exact h
  · exact h
def DepOk (ops : Array Oper) (i m : Nat) : Prop := ∀ j, m.testBit j = true → ∃ oj, ops[j]? = some oj ∧ ∃ e ∈ oj.after, Region.binds .any e = true ∧ (e.on = i ∨ m.testBit e.on = true)
theorem depStep_ok {ops : Array Oper} {i m j : Nat} (h : DepOk ops i m) : DepOk ops i (depStep ops i m j) := by
  intro k hk
  by_cases hm : m.testBit k = true
  · obtain ⟨ok, h1, e, he, hb, ho⟩ := h k hm
    exact ⟨ok, h1, e, he, hb, ho.imp id depStep_mono⟩
  · have hmono : ∀ x, m.testBit x = true → (depStep ops i m j).testBit x = true := fun x => depStep_mono
    unfold depStep at hk hmono ⊢
    split at hk
    · rename_i oj hoj
      split at hk
      · rename_i ha
        rw [Nat.testBit_or, Nat.testBit_two_pow] at hk
        have hjk : j = k := by
          cases h1 : m.testBit k with
          | true => exact absurd h1 hm
          | false => rw [h1] at hk; simpa using hk
        subst hjk
        obtain ⟨e, he, hb⟩ := Array.any_eq_true'.1 ha
        simp only [Bool.and_eq_true, Bool.or_eq_true, beq_iff_eq] at hb
        refine ⟨oj, hoj, e, he, hb.1, ?_⟩
        simp only [hoj, ha, if_true] at hmono ⊢
        exact hb.2.imp id (hmono _)
      · exact absurd hk hm
    · exact absurd hk hm
theorem depL_ok {ops : Array Oper} {i : Nat} : ∀ (l : List Nat) (m : Nat), DepOk ops i m → DepOk ops i (depL ops i l m)
  | [], _, h => h
  | j :: l, m, h => depL_ok l _ (depStep_ok h)
theorem depD_ok (ops : Array Oper) (i : Nat) : DepOk ops i (depD ops i) := depL_ok _ _ (by intro j h; simp at h)

/-- May number i be taken first? -/
def takeOk (ops : Array Oper) (calm : Nat → Bool) (listed : Array Bool) (i : Nat) (ld : Bool) : Bool :=
  (Region.ready .any ops listed).contains i && ((List.range ops.size).all fun j => !((depD ops i).testBit j && listed.getD j true)) && match ops[i]? with
  | none => false
  | some oi => (List.range ops.size).all fun j => j == i || listed.getD j true || match ops[j]? with
      | some oj => (depD ops i).testBit j || (oi.apart ops oj && (!ld || calm j))
      | none => true

theorem takeOk_spec {ops : Array Oper} {calm : Nat → Bool} {listed : Array Bool} {i : Nat} {ld : Bool} {oi : Oper} (hi : ops[i]? = some oi) (h : takeOk ops calm listed i ld = true) :
    i ∈ Region.ready .any ops listed ∧ (∀ j, (depD ops i).testBit j = true → listed.getD j true = false) ∧ ∀ j oj, ops[j]? = some oj → j ≠ i → listed.getD j true = false → (depD ops i).testBit j = false → oi.apart ops oj = true ∧ (ld = true → calm j = true) := by
  simp only [takeOk, hi, Bool.and_eq_true, List.all_eq_true, List.mem_range] at h
  refine ⟨by simpa using h.1.1, ?_, ?_⟩
  · intro j hj
    obtain ⟨oj, hoj, _⟩ := depD_ok ops i j hj
    have h1 := h.1.2 j (Array.getElem?_eq_some_iff.1 hoj).1
    rw [hj, Bool.true_and] at h1
    simpa using h1
  · intro j oj hj hne hun hno
    have h1 := h.2 j (Array.getElem?_eq_some_iff.1 hj).1
    simp only [hj, Bool.or_eq_true, beq_iff_eq, hne, false_or, hun, Bool.false_eq_true, hno] at h1
    simp only [Bool.and_eq_true, Bool.or_eq_true, Bool.not_eq_true'] at h1
    refine ⟨h1.1, fun hl => ?_⟩
    rcases h1.2 with h2 | h2
    · rw [hl] at h2; simp at h2
    · exact h2

/-- What is left of a region, from a state on. -/
def AAny (P : Program) (n : Nat) (ops : Array Oper) (calm : Nat → Bool) (fuel : Nat) (listed : Array Bool) (fr : Fr) (F : List Fr) (K : Post) : Prop :=
  ∀ w G a, Rel w G n a fr F → wpAnyC P ops (fun e a' w' => e = .normal ∧ Good n fr F w G K a' w') calm fuel listed a w

theorem wpAnyC_mono {ops : Array Oper} {Q Q' : Exit → Act → World → Prop} {calm : Nat → Bool} (h : ∀ e a w, Q e a w → Q' e a w) : ∀ (fuel : Nat) (listed : Array Bool) (a : Act) (w : World), wpAnyC P ops Q calm fuel listed a w → wpAnyC P ops Q' calm fuel listed a w
  | 0, _, _, _, hh => ⟨hh.1, h _ _ _ hh.2⟩
  | fuel + 1, listed, a, w, hh => by
    refine ⟨fun hr => h _ _ _ (hh.1 hr), fun i hi => ?_⟩
    have h1 := hh.2 i hi
    unfold wpOp at h1 ⊢
    split
    · rename_i ho; simp only [ho] at h1; exact ⟨h1.1, wpAnyC_mono h fuel _ _ _ h1.2⟩
    · rename_i o ho
      simp only [ho] at h1
      split
      · rename_i hw
        rw [if_pos hw] at h1
        rcases h1 with h1 | ⟨h1, a0, w0, h2⟩
        · left
          have h2 := Oper.wp_mono (K' := fun a' w' => (calm i = true → Below w.heap.size w w') ∧ wpAnyC P ops Q' calm fuel (listed.setIfInBounds i true) a' w') (fun a' w' h' => ⟨h'.1, wpAnyC_mono h fuel _ _ _ h'.2⟩) h1
          simp only [Oper.wp, Oper.upon] at h2 ⊢
          split at h2 <;> rename_i hr
          · exact h2
          · exact h2
          · exact h2
          · refine h2.mono ?_
            rintro e w'' he
            cases e with
            | returned v => exact he
            | panicked c => exact h _ _ _ he
            | outgrown => obtain ⟨a0, w0, hq⟩ := he; exact ⟨a0, w0, h _ _ _ hq⟩
          · exact h2
          · exact h _ _ _ h2
          · exact h2.elim
        · right; exact ⟨h1, a0, w0, h _ _ _ h2⟩
      · rename_i hw
        rw [if_neg hw] at h1
        exact ⟨h1.1, wpAnyC_mono h fuel _ _ _ h1.2⟩

section
variable {ops : Array Oper} {calm : Nat → Bool} {fr : Fr} {F : List Fr} {K : Post}

theorem AAny_done {fuel : Nat} {listed : Array Bool} (hr : Region.ready .any ops listed = []) (hk : K fr F) : AAny P n ops calm fuel listed fr F K := by
  intro w G a h
  cases fuel with
  | zero => exact ⟨hr, rfl, Good.here h hk⟩
  | succ fuel => exact ⟨fun _ => ⟨rfl, Good.here h hk⟩, by rw [hr]; simp⟩

theorem AAny_take {fuel : Nat} {listed : Array Bool} {i d : Nat} {o : Oper} {e : VE} {z : AV} (ho : ops[i]? = some o) (hg : o.guard = none) (hc : compV P o.op = some e) (hd : o.dst = some d) (hdn : d < n) (hns : Region.noSelect ops = true)
    (hchk : takeOk ops calm listed i e.isLd = true) (hx : veval e fr F = some z) (h : AAny P n ops calm fuel (listed.setIfInBounds i true) (fr.set d z) F K) : AAny P n ops calm (fuel + 1) listed fr F K := by
  intro w G a hr
  obtain ⟨v, hv, hvr⟩ := veval_sound hr hc hx
  obtain ⟨hready, hDl, hfree⟩ := takeOk_spec ho hchk
  have hsel := Region.noSelect_spec hns
  obtain ⟨G', fr', F', hk, hl, hrel, htr⟩ := hr.step (K := fun fr' F' => AAny P n ops calm fuel (listed.setIfInBounds i true) fr' F' K) hdn hvr h
  have hnext := wpAnyC_mono (Q' := fun e a' w' => e = .normal ∧ Good n fr F w G K a' w') (fun e a' w' he => ⟨he.1, he.2.trans hl htr⟩) _ _ _ _ (hk w G' _ hrel)
  rw [← hd] at hnext
  refine wpAnyC_first (S := fun w' => e.isLd = true → CellsLe w w') ho hsel (fun c a w hq => by simp at hq) ?_ (fun j => (depD ops i).testBit j) (depD_ok ops i) fuel listed a w hDl ?_ hready ?_ ?_ hnext
  · intro w1 w2 h1 hb hl ad u hu
    exact (hb.cell (World.block_lt_of_cell? w1 ad (h1 hl ad u hu))).trans (h1 hl ad u hu)
  · intro j oj hj hne hun hno
    obtain ⟨h1, h2⟩ := hfree j oj hj hne hun hno
    refine ⟨h1, ?_⟩
    cases hld : e.isLd with
    | true => right; exact h2 hld
    | false => left; intro w' h'; simp at h'
  · left
    exact ⟨by simp [Region.wanted, hg], fun w' hw' => hv w' hw'⟩
  · intro _; exact CellsLe.refl w

end
end
end Go.Proofs.Ythlehngbadianaa.Ai
/- Regions that draw their order: guards, whichever comes up, the region. -/
set_option linter.unusedVariables false
set_option linter.unusedSimpArgs false
namespace Go.Proofs.Ythlehngbadianaa.Ai
open Go Go.RowKit

section
variable {P : Program} {n : Nat} {ops : Array Oper} {calm : Nat → Bool} {fr : Fr} {F : List Fr} {K : Post}

/-- Is the operation wanted? -/
def wantedA (ops : Array Oper) (n : Nat) (fr : Fr) (o : Oper) : Option Bool :=
  match o.guard with
  | none => some true
  | some (j, want) => match (ops[j]?).bind (·.dst) with
    | some s => if s < n then match fr.sl.get s with
      | some (.v (.bool b)) => some (b == want)
      | _ => none
      else none
    | none => none

theorem wanted_sound {w : World} {G : Gh} {a : Act} (h : Rel w G n a fr F) {o : Oper} {b : Bool} (hw : wantedA ops n fr o = some b) : Region.wanted o (yielded ops a.tmps) = b := by
  simp only [wantedA] at hw
  cases hg : o.guard with
  | none => simp [hg] at hw; subst hw; simp [Region.wanted, hg]
  | some g =>
    obtain ⟨j, want⟩ := g
    simp only [hg] at hw
    cases hs : (ops[j]?).bind (·.dst) with
    | none => simp [hs] at hw
    | some s =>
      simp only [hs] at hw
      split at hw
      · rename_i hsn
        split at hw
        · rename_i b' hb
          simp only [Option.some.injEq] at hw
          subst hw
          have hval : a.tmps[s]? = some (.bool b') := by
            have hev := h.ev (o := .s s) (x := .v (.bool b')) (by simp [Fr.ev, hb, borrow, borrow1])
            have := (VR_val hev).1
            simp only [Opd.to, Act.eval] at this
            rw [← this, Array.getD_eq_getD_getElem?, Array.getElem?_eq_getElem (by rw [h.size]; exact hsn)]
            rfl
          have hy : yielded ops a.tmps j = some b' := by simp [yielded, hs, hval]
          simp only [Region.wanted, hg, hy]
          cases b' <;> cases want <;> rfl
        · simp at hw
      · simp at hw

theorem AAny_drop {fuel : Nat} {listed : Array Bool} {i : Nat} {o : Oper} (ho : ops[i]? = some o) (hg : wantedA ops n fr o = some false) (hdn : ∀ d, o.dst = some d → d < n) (hns : Region.noSelect ops = true)
    (hchk : takeOk ops calm listed i false = true) (h : AAny P n ops calm fuel (listed.setIfInBounds i true) (fr.unset o.dst) F K) : AAny P n ops calm (fuel + 1) listed fr F K := by
  intro w G a hr
  obtain ⟨hready, hDl, hfree⟩ := takeOk_spec ho hchk
  have hsel := Region.noSelect_spec hns
  have hrel := hr.unset o.dst hdn undef
  have hnext := wpAnyC_mono (Q' := fun e a' w' => e = .normal ∧ Good n fr F w G K a' w') (fun e a' w' he => ⟨he.1, he.2.trans rfl (Tr.unset fr F w G o.dst undef)⟩) _ _ _ _ (h w _ _ hrel)
  refine wpAnyC_first (S := fun _ => True) ho hsel (fun c a w hq => by simp at hq) (fun _ _ _ _ => trivial) (fun j => (depD ops i).testBit j) (depD_ok ops i) fuel listed a w hDl ?_ hready ?_ trivial hnext
  · intro j oj hj hne hun hno
    exact ⟨(hfree j oj hj hne hun hno).1, Or.inl fun _ => trivial⟩
  · right
    exact ⟨wanted_sound hr hg, rfl⟩

theorem AAny_takeG {fuel : Nat} {listed : Array Bool} {i d : Nat} {o : Oper} {e : VE} {z : AV} (ho : ops[i]? = some o) (hg : wantedA ops n fr o = some true) (hc : compV P o.op = some e) (hd : o.dst = some d) (hdn : d < n) (hns : Region.noSelect ops = true)
    (hchk : takeOk ops calm listed i e.isLd = true) (hx : veval e fr F = some z) (h : AAny P n ops calm fuel (listed.setIfInBounds i true) (fr.set d z) F K) : AAny P n ops calm (fuel + 1) listed fr F K := by
  intro w G a hr
  obtain ⟨v, hv, hvr⟩ := veval_sound hr hc hx
  obtain ⟨hready, hDl, hfree⟩ := takeOk_spec ho hchk
  have hsel := Region.noSelect_spec hns
  obtain ⟨G', fr', F', hk, hl, hrel, htr⟩ := hr.step (K := fun fr' F' => AAny P n ops calm fuel (listed.setIfInBounds i true) fr' F' K) hdn hvr h
  have hnext := wpAnyC_mono (Q' := fun e a' w' => e = .normal ∧ Good n fr F w G K a' w') (fun e a' w' he => ⟨he.1, he.2.trans hl htr⟩) _ _ _ _ (hk w G' _ hrel)
  rw [← hd] at hnext
  refine wpAnyC_first (S := fun w' => e.isLd = true → CellsLe w w') ho hsel (fun c a w hq => by simp at hq) ?_ (fun j => (depD ops i).testBit j) (depD_ok ops i) fuel listed a w hDl ?_ hready ?_ ?_ hnext
  · intro w1 w2 h1 hb hl ad u hu
    exact (hb.cell (World.block_lt_of_cell? w1 ad (h1 hl ad u hu))).trans (h1 hl ad u hu)
  · intro j oj hj hne hun hno
    obtain ⟨h1, h2⟩ := hfree j oj hj hne hun hno
    refine ⟨h1, ?_⟩
    cases hld : e.isLd with
    | true => right; exact h2 hld
    | false => left; intro w' h'; simp at h'
  · left
    exact ⟨wanted_sound hr hg, fun w' hw' => hv w' hw'⟩
  · intro _; exact CellsLe.refl w

theorem wp_false {o : Oper} {a : Act} {w : World} {K : Act → World → Prop} {Q : Exit → Act → World → Prop} (h : o.wp P a w K (fun _ _ _ => False)) : o.wp P a w K Q := by
  simp only [Oper.wp, Oper.upon] at h ⊢
  split at h <;> rename_i hr
  · exact h
  · exact h
  · exact h
  · refine h.mono ?_
    rintro e w'' he
    cases e with
    | returned v => exact he
    | panicked c => exact he.elim
    | outgrown => obtain ⟨_, _, hq⟩ := he; exact hq.elim
  · exact h
  · exact h.elim
  · exact h.elim

/-- What is to be shown for one operation that may come up. -/
def AStep (P : Program) (n : Nat) (ops : Array Oper) (calm : Nat → Bool) (fr : Fr) (F : List Fr) (i : Nat) (K : Post) : Prop :=
  ∃ o, ops[i]? = some o ∧ ((wantedA ops n fr o = some true ∧ AOpC (calm i) P n o fr F K) ∨ (wantedA ops n fr o = some false ∧ (∀ d, o.dst = some d → d < n) ∧ K (fr.unset o.dst) F))

theorem AAny_all {fuel : Nat} {listed : Array Bool} {rs : List Nat} (hr : Region.ready .any ops listed = rs) (hne : rs ≠ [])
    (h : ∀ i ∈ rs, AStep P n ops calm fr F i (fun fr' F' => AAny P n ops calm fuel (listed.setIfInBounds i true) fr' F' K)) : AAny P n ops calm (fuel + 1) listed fr F K := by
  intro w G a hrel
  refine ⟨fun h0 => absurd (hr ▸ h0) hne, ?_⟩
  rw [hr]
  intro i hi
  obtain ⟨o, ho, hh⟩ := h i hi
  unfold wpOp
  simp only [ho]
  have key : ∀ a' w', Good n fr F w G (fun fr' F' => AAny P n ops calm fuel (listed.setIfInBounds i true) fr' F' K) a' w' → wpAnyC P ops (fun e a' w' => e = .normal ∧ Good n fr F w G K a' w') calm fuel (listed.setIfInBounds i true) a' w' := by
    rintro a' w' ⟨G', fr', F', hk, hl, hrel', htr⟩
    exact wpAnyC_mono (fun e a' w' he => ⟨he.1, he.2.trans hl htr⟩) _ _ _ _ (hk w' G' a' hrel')
  rcases hh with ⟨hg, hop⟩ | ⟨hg, hdn, hk⟩
  · rw [if_pos (wanted_sound hrel hg)]
    left
    exact wp_false (Oper.wp_mono' (fun a' w' hgood => ⟨hgood.1, key a' w' hgood.2⟩) (hop w G a hrel))
  · rw [if_neg (by rw [wanted_sound hrel hg]; simp)]
    refine ⟨fun _ => Below.refl _ _, ?_⟩
    have hrel' := hrel.unset o.dst hdn undef
    exact wpAnyC_mono (fun e a' w' he => ⟨he.1, he.2.trans rfl (Tr.unset fr F w G o.dst undef)⟩) _ _ _ _ (hk w _ _ hrel')

theorem AOpC_val {b : Bool} {o : Oper} {e : VE} {d : Nat} (hc : compV P o.op = some e) (hd : o.dst = some d) (hdn : d < n) {z : AV} (hx : veval e fr F = some z) (hk : K (fr.set d z) F) : AOpC b P n o fr F K := by
  intro w G a h
  obtain ⟨v, h1, h2⟩ := veval_sound h hc hx
  simp only [Oper.wp, h1 w (fun _ => CellsLe.refl w), Oper.upon, hd]
  exact ⟨fun _ => Below.refl _ _, h.step hdn h2 hk⟩

theorem AW_draw {id : Nat} {Q : Exit → Post} (hm : P.follows .mixedOrders = true) (calm : Nat → Bool) (h : AAny P n ops calm ops.size (Array.replicate ops.size false) fr F (Q .normal)) : AW P n (.region id ops true) fr F Q := by
  intro w G a hr
  have hb : Below w.heap.size w { w with drawn := w.drawn + 1 } := ⟨rfl, rfl, rfl, Nat.le_refl _, fun _ _ => rfl⟩
  refine wp_region_any hm (wpAny_of_calm _ _ _ _ (wpAnyC_mono ?_ _ _ _ _ (h { w with drawn := w.drawn + 1 } G a (hr.world hb))))
  rintro e a' w' ⟨rfl, hg⟩
  exact hg.trans rfl (Tr.below hb)

end
end Go.Proofs.Ythlehngbadianaa.Ai
/- A stack of frames: references to a cell, or below it, are forgotten; nodes are read and set. -/
set_option linter.unusedVariables false
set_option linter.unusedSimpArgs false
namespace Go.Proofs.Ythlehngbadianaa.Ai
open Go Go.RowKit

/-! References that satisfy a test are forgotten, in each frame out to a given one. -/
mutual
def hitK (H : AV → Bool) : Nat → AV → Bool
  | 0, .sl p es off len => H (.sl p es off len)
  | 0, .sa p es len cap => H (.sa p es len cap)
  | 0, .ptr p => H (.ptr p)
  | k + 1, .up x => hitK H k x
  | k, .fn _ caps => hitKs H k caps
  | _, _ => false
def hitKs (H : AV → Bool) : Nat → List AV → Bool
  | _, [] => false
  | k, c :: cs => hitK H k c || hitKs H k cs
end
def dropC (H : AV → Bool) (k : Nat) (x : AV) : AV := if hitK H k x then .junk else x
def dropV (H : AV → Bool) (k : Nat) : AV → AV
  | .agg cs => .agg (cs.map (dropC H k))
  | .tup sh cs => .tup sh (cs.map (dropC H k))
  | x => dropC H k x
def Fr.drop (fr : Fr) (H : AV → Bool) (k : Nat) : Fr := ⟨fr.sl.mapv (dropV H k), fr.bx.mapv (dropV H k), fr.rw⟩
def killS (H : AV → Bool) : Nat → List Fr → List Fr
  | _, [] => []
  | 0, fr :: F => fr.drop H 0 :: F
  | k + 1, fr :: F => fr.drop H (k + 1) :: killS H k F

/-- The cell p, or what is below it. -/
def hitsP (p2 : Pl) : AV → Bool
  | .sl p _ _ _ => p.base = p2.base && (if p.path.length = p2.path.length then decide (p.j = p2.j) else decide (p2.path.length < p.path.length))
  | .sa p _ _ _ => p.base = p2.base && decide (p2.path.length < p.path.length)
  | .ptr p => p.base = p2.base && decide (p2.path.length < p.path.length)
  | _ => false
/-- The cells of a node, or what is below them. -/
def deep (b : Base) (path : List Hop) : AV → Bool
  | .sl p _ _ _ => p.base = b && decide (path.length ≤ p.path.length)
  | .sa p _ _ _ => p.base = b && decide (path.length < p.path.length)
  | .ptr p => p.base = b && decide (path.length < p.path.length)
  | _ => false

/-- What a test must catch, that a cell may be given to own something. -/
def Covers (H : AV → Bool) (p2 : Pl) : Prop :=
  (∀ p es off len, H (.sl p es off len) = false → ¬ (p.base = p2.base ∧ ((p.path = p2.path ∧ p.j = p2.j) ∨ ∃ q i, p.path = q ++ (p2.j, i) :: p2.path))) ∧
  (∀ p es len cap, H (.sa p es len cap) = false → ¬ (p.base = p2.base ∧ ∃ q i, p.path = q ++ (p2.j, i) :: p2.path)) ∧
  (∀ p, H (.ptr p) = false → ¬ (p.base = p2.base ∧ ∃ q i, p.path = q ++ (p2.j, i) :: p2.path))

theorem covers_hitsP (p2 : Pl) : Covers (hitsP p2) p2 := by
  refine ⟨?_, ?_, ?_⟩
  · rintro p es off len h ⟨hb, h1⟩
    simp only [hitsP, hb, decide_true, Bool.true_and] at h
    rcases h1 with ⟨h1, h2⟩ | ⟨q, i, h1⟩
    · simp [h1, h2] at h
    · have : p.path.length = q.length + (p2.path.length + 1) := by rw [h1]; simp
      rw [if_neg (by omega)] at h
      simp at h; omega
  · rintro p es len cap h ⟨hb, q, i, h1⟩
    have : p.path.length = q.length + (p2.path.length + 1) := by rw [h1]; simp
    simp [hitsP, hb] at h; omega
  · rintro p h ⟨hb, q, i, h1⟩
    have : p.path.length = q.length + (p2.path.length + 1) := by rw [h1]; simp
    simp [hitsP, hb] at h; omega

theorem covers_deep (b : Base) (path : List Hop) (p2 : Pl) (hb : p2.base = b) (hp : path.length ≤ p2.path.length) : Covers (deep b path) p2 := by
  refine ⟨?_, ?_, ?_⟩
  · rintro p es off len h ⟨hb', h1⟩
    rcases h1 with ⟨h1, h2⟩ | ⟨q, i, h1⟩
    · simp [deep, hb', hb, h1] at h; omega
    · have : p.path.length = q.length + (p2.path.length + 1) := by rw [h1]; simp
      simp [deep, hb', hb] at h; omega
  · rintro p es len cap h ⟨hb', q, i, h1⟩
    have : p.path.length = q.length + (p2.path.length + 1) := by rw [h1]; simp
    simp [deep, hb', hb] at h; omega
  · rintro p h ⟨hb', q, i, h1⟩
    have : p.path.length = q.length + (p2.path.length + 1) := by rw [h1]; simp
    simp [deep, hb', hb] at h; omega

theorem dropC_cases (H : AV → Bool) (k : Nat) (x : AV) : dropC H k x = x ∨ (dropC H k x = .junk ∧ x.one = true ∧ x.sh.leaf = true) := by
  simp only [dropC]
  split
  · rename_i h
    right
    refine ⟨rfl, ?_⟩
    cases k <;> cases x <;> simp_all [hitK, AV.one, AV.sh, Sh.leaf]
  · left; rfl
theorem dropC_one (H : AV → Bool) (k : Nat) (x : AV) : (dropC H k x).one = x.one := by
  rcases dropC_cases H k x with h | ⟨h, h2, _⟩
  · rw [h]
  · rw [h, h2]; rfl
theorem dropC_elem (H : AV → Bool) (k : Nat) (x : AV) (i : Nat) : (dropC H k x).elem i = x.elem i := by
  rcases dropC_cases H k x with h | ⟨h, h2, h3⟩
  · rw [h]
  · rw [h]; cases x <;> simp_all [AV.elem, AV.sh, Sh.leaf]
theorem dropV_cells (H : AV → Bool) (k : Nat) (x : AV) : (dropV H k x).cells = x.cells.map (dropC H k) := by
  cases hx : x.one with
  | true =>
    have h : dropV H k x = dropC H k x := by cases x <;> first | rfl | simp [AV.one] at hx
    rw [h, AV.cells_one (by rw [dropC_one]; exact hx), AV.cells_one hx]; rfl
  | false => cases x <;> simp [AV.one] at hx <;> rfl
theorem dropV_sub1 (H : AV → Bool) (k : Nat) (x : AV) (a : Hop) : (dropV H k x).sub [a] = x.sub [a] := by
  obtain ⟨j, i⟩ := a
  simp only [AV.sub, Option.bind_some, dropV_cells, List.getElem?_map]
  cases x.cells[j]? with
  | none => rfl
  | some c => simp [dropC_elem]
theorem dropV_sub (H : AV → Bool) (k : Nat) (x : AV) : ∀ (path : List Hop), path ≠ [] → (dropV H k x).sub path = x.sub path
  | [], h => absurd rfl h
  | [a], _ => dropV_sub1 H k x a
  | a :: b :: path, _ => by
    have ih := dropV_sub H k x (b :: path) (by simp)
    obtain ⟨j, i⟩ := a
    simp only [AV.sub] at ih ⊢
    rw [ih]
theorem dropV_shape {H : AV → Bool} {k : Nat} {x : AV} {u : Value} (h : Shape x u) : Shape (dropV H k x) u := by
  cases hx : x.one with
  | true =>
    have h1 : dropV H k x = dropC H k x := by cases x <;> first | rfl | simp [AV.one] at hx
    rw [h1]
    have hu : u.oneCell' = true := by cases x <;> simp_all [Shape, AV.one]
    have h2 : (dropC H k x).one = true := by rw [dropC_one]; exact hx
    cases hy : dropC H k x <;> rw [hy] at h2 <;> simp_all [Shape, AV.one]
  | false =>
    cases x <;> simp [AV.one] at hx
    · obtain ⟨us, rfl, hl⟩ := h; exact ⟨us, rfl, by simpa using hl⟩
    · obtain ⟨vs, rfl, h1, h2⟩ := h; exact ⟨vs, rfl, h1, by simpa using h2⟩

theorem Fr.root_drop (fr : Fr) (H : AV → Bool) (k : Nat) (b : Base) : (fr.drop H k).root b = (fr.root b).map (dropV H k) := by
  cases b <;> simp [Fr.root, Fr.drop, Al.get_mapv]

theorem killS_length (H : AV → Bool) : ∀ (k : Nat) (S : List Fr), (killS H k S).length = S.length
  | _, [] => by simp [killS]
  | 0, _ :: _ => rfl
  | k + 1, _ :: F => by simp [killS, killS_length H k F]
theorem killS_rw (H : AV → Bool) : ∀ (k : Nat) (S : List Fr), (killS H k S).map Fr.rw = S.map Fr.rw
  | _, [] => by simp [killS]
  | 0, _ :: _ => rfl
  | k + 1, fr :: F => by simp [killS, killS_rw H k F, Fr.drop]

/-- The roots behind it. -/
theorem rootsOf_killS (H : AV → Bool) : ∀ (k : Nat) (S : List Fr) (f : Nat) (b : Base), rootsOf (killS H k S) f b = if S.length - 1 - k ≤ f ∧ k < S.length then (rootsOf S f b).map (dropV H (k - (S.length - 1 - f))) else
    if S.length ≤ k then (rootsOf S f b).map (dropV H (k - (S.length - 1 - f))) else rootsOf S f b
  | _, [], f, b => by simp [killS, rootsOf]
  | 0, fr :: F, f, b => by
    simp only [killS, rootsOf, List.length_cons]
    by_cases hf : f = F.length
    · subst hf
      simp [Fr.root_drop]
    · by_cases hl : F.length ≤ f
      · have : rootsOf F f b = none := rootsOf_ge _ _ _ hl
        simp [hf, this]
      · simp [hf, show ¬ (F.length ≤ f) by omega]
  | k + 1, fr :: F, f, b => by
    simp only [killS, rootsOf, List.length_cons, killS_length]
    by_cases hf : f = F.length
    · subst hf
      simp only [if_true, Fr.root_drop]
      have e : k + 1 - (F.length + 1 - 1 - F.length) = k + 1 := by omega
      rw [e]
      by_cases h1 : k + 1 < F.length + 1
      · rw [if_pos ⟨by omega, h1⟩]
      · rw [if_neg (fun h => h1 h.2), if_pos (by omega)]
    · simp only [hf, if_false]
      rw [rootsOf_killS H k F f b]
      by_cases hl : F.length ≤ f
      · have : rootsOf F f b = none := rootsOf_ge _ _ _ hl
        simp [this]
      · have e : k + 1 - (F.length + 1 - 1 - f) = k - (F.length - 1 - f) := by omega
        rw [e]
        by_cases h1 : F.length - 1 - k ≤ f ∧ k < F.length
        · rw [if_pos h1, if_pos (by omega)]
        · rw [if_neg h1]
          by_cases h2 : F.length ≤ k
          · rw [if_pos h2, if_neg (by omega), if_pos (by omega)]
          · rw [if_neg h2, if_neg (by omega), if_neg (by omega)]

theorem Weak.killS (H : AV → Bool) (k : Nat) (S : List Fr) : Weak (rootsOf (killS H k S)) (rootsOf S) := by
  intro f b path r' hr
  have key : rootsOf (Ai.killS H k S) f b = rootsOf S f b ∨ ∃ m, rootsOf (Ai.killS H k S) f b = (rootsOf S f b).map (dropV H m) := by
    rw [rootsOf_killS]
    split
    · exact Or.inr ⟨_, rfl⟩
    · split
      · exact Or.inr ⟨_, rfl⟩
      · exact Or.inl rfl
  rcases key with h | ⟨m, h⟩
  · exact ⟨r', by simpa [rowOf, h] using hr, rfl, fun _ _ h => Or.inr h⟩
  · simp only [rowOf, h] at hr ⊢
    cases hx : rootsOf S f b with
    | none => simp [hx] at hr
    | some x =>
      simp only [hx, Option.map_some, Option.bind_some] at hr ⊢
      cases path with
      | nil =>
        simp only [AV.row, AV.sub, Option.map_some, Option.some.injEq, dropV_cells] at hr ⊢
        subst hr
        refine ⟨_, rfl, by simp, ?_⟩
        intro j s hs
        simp only [List.getElem?_map, Option.map_eq_some_iff] at hs ⊢
        obtain ⟨c1, ⟨c0, hc0, rfl⟩, rfl⟩ := hs
        rcases dropC_cases H m c0 with e | ⟨e, _, _⟩
        · rw [e]; exact Or.inr ⟨c0, hc0, rfl⟩
        · rw [e]; exact Or.inl rfl
      | cons a path =>
        simp only [AV.row, dropV_sub H m x (a :: path) (by simp)] at hr ⊢
        exact ⟨r', hr, rfl, fun _ _ h => Or.inr h⟩

/-- Nothing that the test catches is left. -/
theorem off_of_hitK {H : AV → Bool} {p2 : Pl} (hH : Covers H p2) (f2 : Nat) : ∀ (f : Nat) (x : AV), (f < f2 ∨ hitK H (f - f2) x = false) → x.off (TT f2 p2) (NN f2 p2) f
  | f, .v _, _ => by simp [AV.off]
  | f, .junk, _ => by simp [AV.off]
  | 0, .up x, _ => by simp [AV.off]
  | f + 1, .up x, h => by
    simp only [AV.off]
    refine off_of_hitK hH f2 f x ?_
    rcases h with h | h
    · exact Or.inl (by omega)
    · by_cases hf : f < f2
      · exact Or.inl hf
      · right
        rw [show f + 1 - f2 = (f - f2) + 1 by omega] at h
        simpa only [hitK] using h
  | f, .fn g caps, h => by
    simp only [AV.off]
    intro c hc
    refine off_of_hitK hH f2 f c ?_
    rcases h with h | h
    · exact Or.inl h
    · right
      have h' : hitKs H (f - f2) caps = false := by cases hk : f - f2 <;> (rw [hk] at h; simpa only [hitK] using h)
      have key : ∀ (cs : List AV), hitKs H (f - f2) cs = false → c ∈ cs → hitK H (f - f2) c = false := by
        intro cs
        induction cs with
        | nil => intro _ h; simp at h
        | cons c0 cs ih =>
          intro h1 h2
          simp only [hitKs, Bool.or_eq_false_iff] at h1
          rcases List.mem_cons.1 h2 with rfl | h2
          · exact h1.1
          · exact ih h1.2 h2
      exact key caps h' hc
  | f, .sl p es off len, h => by
    simp only [AV.off, TT]
    rintro ⟨e1, e2⟩
    rcases h with h | h
    · omega
    · rw [e1, Nat.sub_self] at h
      simp only [hitK] at h
      exact hH.1 p es off len h e2
  | f, .sa p es len cap, h => by
    simp only [AV.off, NN]
    rintro ⟨e1, e2⟩
    rcases h with h | h
    · omega
    · rw [e1, Nat.sub_self] at h
      simp only [hitK] at h
      exact hH.2.1 p es len cap h e2
  | f, .ptr p, h => by
    simp only [AV.off, NN]
    rintro ⟨e1, e2⟩
    rcases h with h | h
    · omega
    · rw [e1, Nat.sub_self] at h
      simp only [hitK] at h
      exact hH.2.2 p h e2
  | f, .agg .., _ => by simp [AV.off]
  | f, .tup .., _ => by simp [AV.off]
  | f, .own .., _ => by simp [AV.off]
  | f, .obj .., _ => by simp [AV.off]
  | f, .lapp .., _ => by simp [AV.off]
termination_by f x => SizeOf.sizeOf x

theorem killS_off {H : AV → Bool} {p2 : Pl} (hH : Covers H p2) {k : Nat} {S : List Fr} (hk : k < S.length) (cl : Clean (rootsOf S)) :
    ∀ f b path r x, rowOf (rootsOf (killS H k S)) f b path = some r → .ref x ∈ r → x.off (TT (S.length - 1 - k) p2) (NN (S.length - 1 - k) p2) f := by
  intro f b path r x hr hx
  cases path with
  | cons a path => exact absurd hx ((Weak.killS H k S).clean cl _ _ _ _ _ _ hr)
  | nil =>
    by_cases hf : f < S.length - 1 - k
    · exact off_lt _ _ _ _ hf
    · refine off_of_hitK hH _ _ _ (Or.inr ?_)
      simp only [rowOf, rootsOf_killS] at hr
      rw [if_pos ⟨by omega, hk⟩] at hr
      cases hy : rootsOf S f b with
      | none => simp [hy] at hr
      | some y =>
        have hflt : f < S.length := by
          rcases Nat.lt_or_ge f S.length with h | h
          · exact h
          · rw [rootsOf_ge _ _ _ h] at hy; simp at hy
        simp only [hy, Option.map_some, Option.bind_some, AV.row, AV.sub, Option.some.injEq, dropV_cells] at hr
        subst hr
        rw [List.mem_map] at hx
        obtain ⟨c, hcm, he⟩ := hx
        have hcx : c = x := by cases c <;> simp [AV.sh] at he <;> exact he
        subst hcx
        rw [List.mem_map] at hcm
        obtain ⟨c0, _, rfl⟩ := hcm
        rw [show f - (S.length - 1 - k) = k - (S.length - 1 - f) by omega]
        simp only [dropC]
        split
        · cases (k - (S.length - 1 - f)) <;> rfl
        · rename_i hh; simpa using hh

end Go.Proofs.Ythlehngbadianaa.Ai
/- Steps that only turn what is known: an alias becomes the owner. -/
set_option linter.unusedVariables false
set_option linter.unusedSimpArgs false
namespace Go.Proofs.Ythlehngbadianaa.Ai
open Go Go.RowKit

def Ghost (fr : Fr) (F : List Fr) (fr' : Fr) (F' : List Fr) : Prop :=
  ∀ w G n a, Rel w G n a fr F → ∃ G', Rel w G' n a fr' F' ∧ Tr F.length w G (rootsOf (fr :: F)) w G' (rootsOf (fr' :: F')) ∧ F'.length = F.length

section
variable {P : Program} {n : Nat} {fr fr' : Fr} {F F' : List Fr}

theorem AW_ghost {c : Code} {Q : Exit → Post} (hg : Ghost fr F fr' F') (h : AW P n c fr' F' Q) : AW P n c fr F Q := by
  intro w G a hr
  obtain ⟨G', hrel, htr, hl⟩ := hg w G n a hr
  exact wp_mono (h w G' a hrel) fun e a' w' hgood => hgood.trans hl htr

theorem AOpC_ghost {b : Bool} {o : Oper} {K : Post} (hg : Ghost fr F fr' F') (h : AOpC b P n o fr' F' K) : AOpC b P n o fr F K := by
  intro w G a hr
  obtain ⟨G', hrel, htr, hl⟩ := hg w G n a hr
  exact Oper.wp_mono' (fun a' w' hh => ⟨hh.1, hh.2.trans hl htr⟩) (h w G' a hrel)

theorem AOp_ghost {o : Oper} {K : Post} (hg : Ghost fr F fr' F') (h : AOp P n o fr' F' K) : AOp P n o fr F K := by
  intro w G a hr
  obtain ⟨G', hrel, htr, hl⟩ := hg w G n a hr
  exact Oper.wp_mono' (fun a' w' hh => hh.trans hl htr) (h w G' a hrel)

theorem AOps_ghost {ops : Array Oper} {l : List Nat} {K : Post} (hg : Ghost fr F fr' F') (h : AOps P n ops l fr' F' K) : AOps P n ops l fr F K := by
  intro w G a hr
  obtain ⟨G', hrel, htr, hl⟩ := hg w G n a hr
  exact wpOps_mono (fun e a' w' hh => ⟨hh.1, hh.2.trans hl htr⟩) _ _ _ (h w G' a hrel)

theorem AAny_ghost {ops : Array Oper} {calm : Nat → Bool} {fuel : Nat} {listed : Array Bool} {K : Post} (hg : Ghost fr F fr' F') (h : AAny P n ops calm fuel listed fr' F' K) : AAny P n ops calm fuel listed fr F K := by
  intro w G a hr
  obtain ⟨G', hrel, htr, hl⟩ := hg w G n a hr
  exact wpAnyC_mono (fun e a' w' hh => ⟨hh.1, hh.2.trans hl htr⟩) _ _ _ _ (h w G' a hrel)

theorem Ghost.trans {fr2 : Fr} {F2 : List Fr} (h : Ghost fr F fr' F') (k : Ghost fr' F' fr2 F2) : Ghost fr F fr2 F2 := by
  intro w G n a hr
  obtain ⟨G1, h1, h2, h3⟩ := h w G n a hr
  obtain ⟨G2, k1, k2, k3⟩ := k w G1 n a h1
  refine ⟨G2, k1, ?_, by omega⟩
  rw [h3] at k2
  exact h2.trans k2

theorem Ghost.kill (fr : Fr) (F : List Fr) (b : Base) : Ghost fr F (fr.kill b) F := fun w G n a hr =>
  ⟨G, hr.kill b, Tr.weak (Weak.kill fr F b) (Shp.cons _ _ _), rfl⟩

/-- A slot's cell that refers to a list takes it over. -/
theorem Ghost.claimL {d j k : Nat} {p : Pl} {es off len : Nat} {xs : List AV} {x0 : AV} (hx0 : (fr.kill (.sl d)).sl.get d = some x0) (hc0 : x0.cells[j]? = some (upN k (.sl p es off len)))
    (hget : getp (fr.kill (.sl d) :: F) k p = some (.own es xs)) (hle : off + len ≤ xs.length) (hrw : ((fr :: F).map Fr.rw)[k]? = some true) (hne : ¬ (k = 0 ∧ p.base = .sl d))
    (he : setp (setp (fr.kill (.sl d) :: F) k p .junk) 0 ⟨.sl d, [], j⟩ (.own es ((xs.drop off).take len)) = fr' :: F') : Ghost fr F fr' F' := by
  intro w G n a hr
  have h := hr.kill (.sl d)
  obtain ⟨hk, hcell⟩ := getp_cellAV _ _ _ _ hget
  have hkF : k ≤ F.length := by simp at hk; omega
  have hkk : (fr.kill (.sl d) :: F).length - 1 - k = F.length - k := by simp
  rw [hkk] at hcell
  have hwk : G.wr (F.length - k) = true := by
    have := hr.wr.1.2 k hrw
    simpa using this
  -- what the slot's cell holds
  obtain ⟨hsh, hone⟩ := h.shape d x0 hx0
  have hrow : rowOf (rootsOf (fr.kill (.sl d) :: F)) F.length (.sl d) [] = some (x0.cells.map AV.sh) := by
    simp [rowOf, rootsOf, Fr.root, hx0, AV.row, AV.sub]
  obtain ⟨u, hu, hcs⟩ := h.ok.cell _ _ _ _ j (upN k (.sl p es off len)).sh hrow (by simp [hc0])
  have hrv := CS_borrow hcs
  have hb : borrow1 (.sl d) [] j (upN k (.sl p es off len)) = upN k (.sl p es off len) := by cases k <;> rfl
  rw [hb] at hrv
  have hrv2 := (RV_upN k F.length (.sl p es off len) u hkF).1 hrv
  obtain ⟨r1, hr1, hs1, hj1⟩ := cellAV_cellOf hcell
  have hcell1 : cellOf (rootsOf (fr.kill (.sl d) :: F)) (F.length - k) p = some (.own es xs.length) := by obtain ⟨b, path, jj⟩ := p; simp [cellOf, hr1] at hs1 ⊢; simpa [AV.sh] using hs1
  obtain ⟨u1, _, hcs1⟩ := h.ok.cell _ _ _ _ _ _ hr1 hs1
  simp only [AV.sh, CS] at hcs1
  obtain ⟨hes, hpos, cap1, _, _, hblk1⟩ := hcs1
  have hval : ∃ ao cap, u = .slice (some ⟨(G.h (F.length - k) p.base p.path p.j).1, ao, none⟩) len cap ∧ len ≤ cap ∧ (cap = 0 ∨ ao = (G.h (F.length - k) p.base p.path p.j).2.1 + off * es) ∧ blockOk w (G.wr (F.length - k)) (G.h (F.length - k) p.base p.path p.j).1 (ao + cap * es) := by
    have : ∀ f, RV w G (rootsOf (fr.kill (.sl d) :: F)) f (.sl p es off len) u → cellOf (rootsOf (fr.kill (.sl d) :: F)) f p = some (.own es xs.length) → ∃ ao cap, u = .slice (some ⟨(G.h f p.base p.path p.j).1, ao, none⟩) len cap ∧ len ≤ cap ∧ (cap = 0 ∨ ao = (G.h f p.base p.path p.j).2.1 + off * es) ∧ blockOk w (G.wr f) (G.h f p.base p.path p.j).1 (ao + cap * es) := by
      intro f h1 h2
      simp only [RV] at h1
      exact h1 _ h2 hle
    exact this _ hrv2 hcell1
  obtain ⟨ao, cap, rfl, hcap, hao, hblk⟩ := hval
  have hu' : (flatV (a.tmps.getD d undef))[j]? = some (.slice (some ⟨(G.h (F.length - k) p.base p.path p.j).1, ao, none⟩) len cap) := by
    simpa [conc, inMem, h.tm] using hu
  rw [hwk] at hblk
  obtain ⟨G', fr2, F2, e1, hl, hrel, hw, htm, hun⟩ := h.adopt (k := k) (p := p) hkF hcell hwk hx0 hc0 (by cases k <;> rfl) hne (NoHit.kill fr (.sl d)) off len hle [] (by intro y hy; simp at hy)
    (G.h (F.length - k) p.base p.path p.j).1 ao cap (Or.inl rfl)
    (by
      intro i jj hi hjj
      rcases hao with h0 | h0
      · omega
      · rw [h0, Nat.add_mul]; congr 2; omega)
    (by intro i y hy; simp at hy) (by simpa using hu') (by simpa using hcap) hblk
  rw [List.append_nil, he] at e1
  obtain ⟨rfl, rfl⟩ : fr' = fr2 ∧ F' = F2 := by simpa using e1
  refine ⟨G', hrel, ?_, hl⟩
  have t1 : Tr F.length w G (rootsOf (fr :: F)) w G (rootsOf (fr.kill (.sl d) :: F)) := Tr.weak (Weak.kill fr F (.sl d)) (Shp.cons _ _ _)
  refine t1.trans ⟨rfl, rfl, rfl, Nat.le_refl _, hw, fun f k' _ => by rw [htm], ?_, ?_⟩
  · intro b _ hb'
    refine ⟨rfl, hun b hb' (fun e => ?_)⟩
    exact hb' (Owner.cell (F.length - k) p.base p.path p.j) (Or.inl ⟨es, xs.length, hcell1⟩) hwk e.symm
  · have hl1 := setp_length (fr.kill (.sl d) :: F) k p .junk
    exact (Shp.setp F.length (c := .junk) rfl hk rfl).trans (Shp.setp F.length (p := ⟨.sl d, [], j⟩) rfl (by rw [hl1]; simp) he)

/-- A slot's cell that refers to an object takes it over. -/
theorem Ghost.claimO {d j k : Nat} {b : Base} {path : List Hop} {jj : Nat} {x x0 : AV} (hx0 : (fr.kill (.sl d)).sl.get d = some x0) (hc0 : x0.cells[j]? = some (upN k (.ptr ⟨b, (jj, 0) :: path, 0⟩)))
    (hget : getp (fr.kill (.sl d) :: F) k ⟨b, path, jj⟩ = some (.obj x)) (hne0 : x.cells ≠ []) (hrw : ((fr :: F).map Fr.rw)[k]? = some true) (hne : ¬ (k = 0 ∧ b = .sl d))
    (he : setp (setp (fr.kill (.sl d) :: F) k ⟨b, path, jj⟩ .junk) 0 ⟨.sl d, [], j⟩ (.obj x) = fr' :: F') : Ghost fr F fr' F' := by
  intro w G n a hr
  have h := hr.kill (.sl d)
  obtain ⟨hk, hcell⟩ := getp_cellAV _ _ _ _ hget
  have hkF : k ≤ F.length := by simp at hk; omega
  have hkk : (fr.kill (.sl d) :: F).length - 1 - k = F.length - k := by simp
  rw [hkk] at hcell
  have hwk : G.wr (F.length - k) = true := by
    have := hr.wr.1.2 k hrw
    simpa using this
  obtain ⟨hsh, hone⟩ := h.shape d x0 hx0
  have hrow : rowOf (rootsOf (fr.kill (.sl d) :: F)) F.length (.sl d) [] = some (x0.cells.map AV.sh) := by
    simp [rowOf, rootsOf, Fr.root, hx0, AV.row, AV.sub]
  obtain ⟨u, hu, hcs⟩ := h.ok.cell _ _ _ _ j (upN k (.ptr ⟨b, (jj, 0) :: path, 0⟩)).sh hrow (by simp [hc0])
  have hrv := CS_borrow hcs
  have hb : borrow1 (.sl d) [] j (upN k (.ptr ⟨b, (jj, 0) :: path, 0⟩)) = upN k (.ptr ⟨b, (jj, 0) :: path, 0⟩) := by cases k <;> rfl
  rw [hb] at hrv
  have hrv2 := (RV_upN k F.length (.ptr ⟨b, (jj, 0) :: path, 0⟩) u hkF).1 hrv
  obtain ⟨r1, hr1, hs1, hj1⟩ := cellAV_cellOf hcell
  obtain ⟨u1, hu1, hcs1⟩ := h.ok.cell _ _ _ _ _ _ hr1 hs1
  simp only [AV.sh, CS] at hcs1
  obtain ⟨ho1, hu1e, hblk1⟩ := hcs1
  have hrowx : rowOf (rootsOf (fr.kill (.sl d) :: F)) (F.length - k) b ((jj, 0) :: path) = some (x.cells.map AV.sh) := by
    have := cellAV_under hcell [] 0
    simpa [AV.elem, AV.row, AV.sub] using this
  have hval : u = .pointer (some ⟨(G.h (F.length - k) b path jj).1, 0, none⟩) := by
    have : ∀ f, RV w G (rootsOf (fr.kill (.sl d) :: F)) f (.ptr ⟨b, (jj, 0) :: path, 0⟩) u → rowOf (rootsOf (fr.kill (.sl d) :: F)) f b ((jj, 0) :: path) = some (x.cells.map AV.sh) → u = .pointer (some ⟨(G.addr f b ((jj, 0) :: path)).1, (G.addr f b ((jj, 0) :: path)).2 + 0, none⟩) := by
      intro f h1 h2
      simp only [RV] at h1
      exact h1 _ h2 (inMem_cons _ _ _) (by simpa using List.length_pos_iff.2 hne0)
    rw [this _ hrv2 hrowx]
    simp [Gh.addr, ho1]
  have hjlt : j < x0.cells.length := (List.getElem?_eq_some_iff.1 hc0).1
  obtain ⟨fr1, F1, e1, hl1⟩ := setp_cons (fr.kill (.sl d)) F k ⟨b, path, jj⟩ .junk
  obtain ⟨fr2, F2, e2, hl2⟩ := setp_cons fr1 F1 0 ⟨.sl d, [], j⟩ (.obj x)
  have hR1 : rootsOf (fr1 :: F1) = setR (rootsOf (fr.kill (.sl d) :: F)) (F.length - k) ⟨b, path, jj⟩ .junk := by
    rw [← e1, rootsOf_setp _ _ _ _ (by simp; omega), hkk]
  have hR2 : rootsOf (fr2 :: F2) = setR (rootsOf (fr1 :: F1)) F.length ⟨.sl d, [], j⟩ (.obj x) := by
    rw [← e2, rootsOf_setp _ _ _ _ (by simp)]
    simp [hl1]
  have hrow1 : rowOf (setR (rootsOf (fr.kill (.sl d) :: F)) (F.length - k) ⟨b, path, jj⟩ .junk) F.length (.sl d) [] = some (x0.cells.map AV.sh) := by
    rw [rowOf_setR_other hr1 hj1 _ rfl _ _ _ (fun e => hne ⟨by omega, e.2.1.symm⟩) (fun e => hne ⟨by omega, e.2.1.symm⟩)]
    exact hrow
  have hoff := (NoHit.kill fr (.sl d)).off (p2 := ⟨.sl d, [], j⟩) h.clean
  obtain ⟨G', hok, hcl, hw, htm, _, hun⟩ := OkMove h.ok h.clean hcell rfl hwk (p2 := ⟨.sl d, [], j⟩) hrow1 (by simpa using hjlt)
    (by intro s hs; simp only [List.getElem?_map, hc0, Option.map_some, Option.some.injEq] at hs; rw [← hs]; cases k <;> rfl) h.wr0
    (by rw [hu, hu1, hval, hu1e]) (by
      intro f b' path' r x' hr' hx'
      rcases rowOf_setR_leaf hr1 hj1 (c := .junk) rfl rfl hr' with ⟨rfl, rfl, rfl, rfl⟩ | ⟨_, h6⟩
      · rcases List.mem_or_eq_of_mem_set hx' with hx' | hx'
        · exact hoff _ _ _ _ _ hr1 hx'
        · simp [AV.sh] at hx'
      · exact hoff _ _ _ _ _ h6 hx')
  rw [← hR1, ← hR2] at hok hcl hun
  have hrw2 : (fr2 :: F2).map Fr.rw = (fr.kill (.sl d) :: F).map Fr.rw := by rw [← e2, setp_rw, ← e1, setp_rw]
  rw [e1, e2] at he
  obtain ⟨rfl, rfl⟩ : fr2 = fr' ∧ F2 = F' := by simpa using he
  refine ⟨G', ⟨hok, ?_, ?_, h.size, ?_, h.defers, hcl⟩, ?_, by omega⟩
  · intro k'; rw [htm, hl2, hl1]; exact h.tm k'
  · have s1 := shape_setp (c := .junk) rfl e1 _ h.shape
    exact shape_setp (c := .obj x) rfl e2 _ s1
  · rw [hrw2]; exact h.wr.cong hw
  · have t1 : Tr F.length w G (rootsOf (fr :: F)) w G (rootsOf (fr.kill (.sl d) :: F)) := Tr.weak (Weak.kill fr F (.sl d)) (Shp.cons _ _ _)
    refine t1.trans ⟨rfl, rfl, rfl, Nat.le_refl _, hw, fun f k' _ => by rw [htm], fun b' _ hb' => ⟨rfl, hun b' hb'⟩, ?_⟩
    have hl1' := setp_length (fr.kill (.sl d) :: F) k ⟨b, path, jj⟩ .junk
    exact (Shp.setp F.length (c := .junk) rfl hk e1).trans (Shp.setp F.length (p := ⟨.sl d, [], j⟩) rfl (by simp) e2)

end
end Go.Proofs.Ythlehngbadianaa.Ai
/- Cells in memory are stored to. -/
set_option linter.unusedVariables false
set_option linter.unusedSimpArgs false
namespace Go.Proofs.Ythlehngbadianaa.Ai
open Go Go.RowKit

/-- A place k frames out: its address. -/
def adr (G : Gh) (F : List Fr) (k : Nat) (p : Pl) : Addr := ⟨(G.addr (F.length - k) p.base p.path).1, (G.addr (F.length - k) p.base p.path).2 + p.j, none⟩

section
variable {P : Program} {w : World} {G : Gh} {n : Nat} {a : Act} {fr : Fr} {F : List Fr}

theorem Rel.put (h : Rel w G n a fr F) {k : Nat} {p : Pl} (hkF : k ≤ F.length) (hwk : G.wr (F.length - k) = true) {r : List Sh} (hrow : rowOf (rootsOf (fr :: F)) (F.length - k) p.base p.path = some r) (hj : p.j < r.length) (hm : inMem p.base p.path = true)
    {c : AV} {u : Value} (hc : c = .v u ∨ c = .junk) (hu : u.oneCell' = true) {fr' : Fr} {F' : List Fr} (he : setp (fr :: F) k p c = fr' :: F') :
    Rel (w.setCell (adr G F k p) u) G n a fr' F' ∧ F'.length = F.length ∧ Tr F.length w G (rootsOf (fr :: F)) (w.setCell (adr G F k p) u) G (rootsOf (fr' :: F')) := by
  have hone : c.one = true := by rcases hc with rfl | rfl <;> rfl
  have hleaf : c.sh.leaf = true := by rcases hc with rfl | rfl <;> rfl
  obtain ⟨fr1, F1, e1, hl1⟩ := setp_cons fr F k p c
  rw [he] at e1
  obtain ⟨rfl, rfl⟩ : fr' = fr1 ∧ F' = F1 := by simpa using e1
  have hkk : (fr :: F).length - 1 - k = F.length - k := by simp
  have hR : rootsOf (fr' :: F') = setR (rootsOf (fr :: F)) (F.length - k) p c := by
    rw [← he, rootsOf_setp _ _ _ _ (by simp; omega), hkk]
  have hok := h.ok.write hrow hj hm hwk hone hleaf u hu (by
    rcases hc with rfl | rfl
    · simp [AV.sh, CS]
    · simp [AV.sh, CS])
  have hrw : (fr' :: F').map Fr.rw = (fr :: F).map Fr.rw := by rw [← he, setp_rw]
  have hvalid : ∀ o : Owner, o.valid (rootsOf (fr' :: F')) → o.valid (rootsOf (fr :: F)) := by
    intro o ho
    rw [hR] at ho
    exact Owner.valid_leaf hrow hj hone hleaf ho
  refine ⟨⟨by rw [hR]; exact hok, fun k' => by rw [hl1]; exact h.tm k', shape_setp hone he _ h.shape, h.size, by rw [hrw]; exact h.wr, h.defers, ?_⟩, hl1, rfl, rfl, rfl, by simp [World.setCell], rfl, fun _ _ _ => rfl, ?_, Shp.setp F.length hone (by simp; omega) he⟩
  · rw [hR]
    refine h.clean.leafc hrow hj hone hleaf (Or.inl ?_)
    rcases hc with rfl | rfl <;> simp [AV.sh]
  · intro b hb hun
    refine ⟨?_, Un.weak rfl (fun o ho => ⟨hvalid o ho, rfl⟩) hun⟩
    refine Below.heap_setCell _ _ _ _ (fun e => ?_)
    refine hun (ownerOf (F.length - k) p.base p.path) (ownerOf_valid hrow hm) (by rw [ownerOf_frame]; exact hwk) ?_
    rw [ownerOf_blk G hm]
    exact e.symm

/-- What a slot's cell owns goes over to a cell in memory that holds the same value. -/
theorem Rel.moveTo (h : Rel w G n a fr F) {H : AV → Bool} {k : Nat} {p : Pl} (hH : Covers H p) (hkF : k ≤ F.length) (hwk : G.wr (F.length - k) = true) {t j : Nat} {x0 c : AV} (hx0 : fr.sl.get t = some x0) (hc0 : x0.cells[j]? = some c) (howns : c.owns = true)
    (hne : ¬ (k = 0 ∧ p.base = .sl t)) {r : List Sh} (hrow : rowOf (rootsOf (fr :: F)) (F.length - k) p.base p.path = some r) (hj : r[p.j]? = some .junk) {u : Value} (hu1 : (flatV (a.tmps.getD t undef))[j]? = some u)
    (hu2 : conc w G (F.length - k) p.base p.path p.j = some u) {fr' : Fr} {F' : List Fr} (he : setp (setp (killS H k (fr :: F)) 0 ⟨.sl t, [], j⟩ .junk) k p c = fr' :: F') :
    ∃ G', Rel w G' n a fr' F' ∧ F'.length = F.length ∧ Tr F.length w G (rootsOf (fr :: F)) w G' (rootsOf (fr' :: F')) ∧ AddrKeep G G' (F.length - k) p := by
  have hone : c.one = true := owns_one howns
  -- the references are forgotten
  have hw1 := Weak.killS H k (fr :: F)
  obtain ⟨fr1, F1, e1⟩ : ∃ fr1 F1, killS H k (fr :: F) = fr1 :: F1 := by cases k <;> exact ⟨_, _, rfl⟩
  have hl1 : F1.length = F.length := by have := killS_length H k (fr :: F); rw [e1] at this; simpa using this
  have hrw1 : (fr1 :: F1).map Fr.rw = (fr :: F).map Fr.rw := by rw [← e1, killS_rw]
  have hoff := killS_off hH (k := k) (S := fr :: F) (by simp; omega) h.clean
  have hkk : (fr :: F).length - 1 - k = F.length - k := by simp
  rw [hkk] at hoff
  have hx1 : fr1.sl.get t = some (dropV H k x0) := by
    cases k with
    | zero => simp only [killS, List.cons.injEq] at e1; rw [← e1.1]; simp [Fr.drop, Al.get_mapv, hx0]
    | succ k => simp only [killS, List.cons.injEq] at e1; rw [← e1.1]; simp [Fr.drop, Al.get_mapv, hx0]
  have hc1 : (dropV H k x0).cells[j]? = some c := by
    rw [dropV_cells, List.getElem?_map, hc0]
    have : hitK H k c = false := by cases c <;> simp [AV.owns] at howns <;> cases k <;> rfl
    simp [dropC, this]
  rw [e1] at he hw1 hoff
  have hok1 := h.ok.weaken hw1
  have hcl1 := hw1.clean h.clean
  have hshape1 : ∀ k' x, fr1.sl.get k' = some x → Shape x (a.tmps.getD k' undef) ∧ ∀ v ∈ flatV (a.tmps.getD k' undef), v.oneCell' = true := by
    intro k' x hx
    have : ∃ y, fr.sl.get k' = some y ∧ x = dropV H k y := by
      cases k with
      | zero => simp only [killS, List.cons.injEq] at e1; rw [← e1.1] at hx; simp only [Fr.drop, Al.get_mapv, Option.map_eq_some_iff] at hx; obtain ⟨y, hy, rfl⟩ := hx; exact ⟨y, hy, rfl⟩
      | succ k => simp only [killS, List.cons.injEq] at e1; rw [← e1.1] at hx; simp only [Fr.drop, Al.get_mapv, Option.map_eq_some_iff] at hx; obtain ⟨y, hy, rfl⟩ := hx; exact ⟨y, hy, rfl⟩
    obtain ⟨y, hy, rfl⟩ := this
    exact ⟨dropV_shape (h.shape k' y hy).1, (h.shape k' y hy).2⟩
  obtain ⟨r', hr', hlen', hcells'⟩ : ∃ r', rowOf (rootsOf (fr1 :: F1)) (F.length - k) p.base p.path = some r' ∧ r'.length = r.length ∧ r'[p.j]? = some .junk := by
    have key : rootsOf (fr1 :: F1) (F.length - k) p.base = (rootsOf (fr :: F) (F.length - k) p.base).map (dropV H 0) := by
      rw [← e1, rootsOf_killS, if_pos ⟨by simp, by simp; omega⟩]
      rw [show k - ((fr :: F).length - 1 - (F.length - k)) = 0 by simp; omega]
    simp only [rowOf] at hrow ⊢
    rw [key]
    cases hy : rootsOf (fr :: F) (F.length - k) p.base with
    | none => simp [hy] at hrow
    | some y =>
      simp only [hy, Option.bind_some, Option.map_some] at hrow ⊢
      by_cases hp : p.path = []
      · simp only [hp, AV.row, AV.sub, Option.map_some, Option.some.injEq, dropV_cells] at hrow ⊢
        subst hrow
        refine ⟨_, rfl, by simp, ?_⟩
        simp only [List.getElem?_map, Option.map_eq_some_iff] at hj ⊢
        obtain ⟨c1, hc1, hs1⟩ := hj
        refine ⟨_, ⟨c1, hc1, rfl⟩, ?_⟩
        rcases dropC_cases H 0 c1 with e | ⟨e, _⟩
        · rw [e]; exact hs1
        · rw [e]; rfl
      · simp only [AV.row, dropV_sub H 0 y p.path hp] at hrow ⊢
        exact ⟨r, hrow, rfl, hj⟩
  have hjlt : p.j < r'.length := (List.getElem?_eq_some_iff.1 hcells').1
  -- the move
  have hsrc : cellAV (rootsOf (fr1 :: F1)) F.length ⟨.sl t, [], j⟩ = some c := by
    simp only [cellAV, rootsOf, hl1, if_true, Fr.root, hx1, Option.bind_some, AV.cellIn, AV.sub, hc1]
  obtain ⟨rs, hrs, hss, hjs⟩ := cellAV_cellOf hsrc
  have hrow1 : rowOf (setR (rootsOf (fr1 :: F1)) F.length ⟨.sl t, [], j⟩ .junk) (F.length - k) p.base p.path = some r' := by
    rw [rowOf_setR_other hrs hjs _ rfl _ _ _ (fun e => hne ⟨by omega, e.2.1⟩) (fun e => hne ⟨by omega, e.2.1⟩)]
    exact hr'
  obtain ⟨G', hok2, hcl2, hw2, htm2, hadr, hun2⟩ := OkMove hok1 hcl1 hsrc howns h.wr0 hrow1 hjlt (by intro s hs; rw [hcells'] at hs; obtain rfl := Option.some.inj hs; rfl) hwk
    (by rw [hu2]; simp only [conc, inMem, Bool.false_eq_true, if_false, h.tm]; exact hu1.symm) (by
      intro f b path r2 x hr2 hx2
      rcases rowOf_setR_leaf hrs hjs (c := .junk) rfl rfl hr2 with ⟨rfl, rfl, rfl, rfl⟩ | ⟨_, h6⟩
      · rcases List.mem_or_eq_of_mem_set hx2 with hx2 | hx2
        · exact hoff _ _ _ _ _ hrs hx2
        · simp [AV.sh] at hx2
      · exact hoff _ _ _ _ _ h6 hx2)
  obtain ⟨fr2, F2, e2, hl2⟩ := setp_cons fr1 F1 0 ⟨.sl t, [], j⟩ .junk
  obtain ⟨fr3, F3, e3, hl3⟩ := setp_cons fr2 F2 k p c
  rw [e2, e3] at he
  obtain ⟨rfl, rfl⟩ : fr3 = fr' ∧ F3 = F' := by simpa using he
  have hR2 : rootsOf (fr2 :: F2) = setR (rootsOf (fr1 :: F1)) F.length ⟨.sl t, [], j⟩ .junk := by
    rw [← e2, rootsOf_setp _ _ _ _ (by simp)]
    simp [hl1]
  have hR3 : rootsOf (fr3 :: F3) = setR (rootsOf (fr2 :: F2)) (F.length - k) p c := by
    rw [← e3, rootsOf_setp _ _ _ _ (by simp; omega)]
    simp [hl2, hl1]
  rw [← hR2, ← hR3] at hok2 hcl2 hun2
  have hrw3 : (fr3 :: F3).map Fr.rw = (fr :: F).map Fr.rw := by rw [← e3, setp_rw, ← e2, setp_rw, hrw1]
  refine ⟨G', ⟨hok2, ?_, ?_, h.size, ?_, h.defers, hcl2⟩, by omega, ?_, hadr⟩
  · intro k'; rw [htm2, hl3, hl2, hl1]; exact h.tm k'
  · exact shape_setp hone e3 _ (shape_setp (c := .junk) rfl e2 _ hshape1)
  · rw [hrw3]; exact h.wr.cong hw2
  · have t1 : Tr F.length w G (rootsOf (fr :: F)) w G (rootsOf (fr1 :: F1)) := Tr.weak hw1 (by
      intro f k' x' hf hx'
      rw [← e1, rootsOf_killS] at hx'
      split at hx'
      · simp only [Option.map_eq_some_iff] at hx'
        obtain ⟨y, hy, rfl⟩ := hx'
        exact ⟨y, hy, fun u hu => dropV_shape hu⟩
      · split at hx'
        · simp only [Option.map_eq_some_iff] at hx'
          obtain ⟨y, hy, rfl⟩ := hx'
          exact ⟨y, hy, fun u hu => dropV_shape hu⟩
        · exact ⟨x', hx', fun _ h => h⟩)
    refine t1.trans ⟨rfl, rfl, rfl, Nat.le_refl _, hw2, fun f k' _ => by rw [htm2], fun b _ hb => ⟨rfl, hun2 b hb⟩, ?_⟩
    exact (Shp.setp F.length (c := .junk) rfl (by simp) e2).trans (Shp.setp F.length hone (by simp; omega) e3)

end
end Go.Proofs.Ythlehngbadianaa.Ai
/- The store. -/
set_option linter.unusedVariables false
set_option linter.unusedSimpArgs false
namespace Go.Proofs.Ythlehngbadianaa.Ai
open Go Go.RowKit

/-- A cell is stored to. -/
def stCell (H : AV → Bool) (t j k : Nat) (p : Pl) (c : AV) (S : List Fr) : List Fr :=
  if c.owns then setp (setp (killS H k (setp S k p .junk)) 0 ⟨.sl t, [], j⟩ .junk) k p c
  else match c with
    | .v u => setp S k p (.v u)
    | _ => setp S k p .junk

def stCells (H : AV → Bool) (t k : Nat) (p : Pl) : Nat → List AV → List Fr → List Fr
  | _, [], S => S
  | j, c :: cs, S => stCells H t k p (j + 1) cs (stCell H t j k { p with j := p.j + j } c S)

theorem setp_get {k : Nat} {p : Pl} {c : AV} {fr fr' : Fr} {F F' : List Fr} {t : Nat} (hne : ¬ (k = 0 ∧ p.base = .sl t)) (he : setp (fr :: F) k p c = fr' :: F') : fr'.sl.get t = fr.sl.get t := by
  cases k with
  | succ k => simp only [setp, List.cons.injEq] at he; rw [← he.1]
  | zero =>
    simp only [setp, List.cons.injEq] at he
    rw [← he.1]
    have := Fr.root_modr fr p.base (fun x => x.setC p.path p.j c) (.sl t)
    rw [if_neg (fun e => hne ⟨rfl, e.symm⟩)] at this
    exact this

theorem setp_row {k : Nat} {p : Pl} {c : AV} (hc : c.one = true) {S S' : List Fr} (hk : k < S.length) (he : setp S k p c = S') {r : List Sh} (h : rowOf (rootsOf S) (S.length - 1 - k) p.base p.path = some r) :
    rowOf (rootsOf S') (S.length - 1 - k) p.base p.path = some (r.set p.j c.sh) := by
  rw [← he, rootsOf_setp _ _ _ _ hk]
  exact rowOf_setR_here h c hc

theorem killS_row (H : AV → Bool) (k : Nat) (S : List Fr) (f : Nat) (b : Base) (path : List Hop) {r : List Sh} (h : rowOf (rootsOf S) f b path = some r) : ∃ r', rowOf (rootsOf (killS H k S)) f b path = some r' ∧ r'.length = r.length := by
  have key : rootsOf (killS H k S) f b = rootsOf S f b ∨ ∃ m, rootsOf (killS H k S) f b = (rootsOf S f b).map (dropV H m) := by
    rw [rootsOf_killS]
    split
    · exact Or.inr ⟨_, rfl⟩
    · split
      · exact Or.inr ⟨_, rfl⟩
      · exact Or.inl rfl
  rcases key with e | ⟨m, e⟩
  · exact ⟨r, by simpa [rowOf, e] using h, rfl⟩
  · simp only [rowOf, e] at h ⊢
    cases hx : rootsOf S f b with
    | none => simp [hx] at h
    | some x =>
      simp only [hx, Option.map_some, Option.bind_some] at h ⊢
      cases path with
      | nil =>
        simp only [AV.row, AV.sub, Option.map_some, Option.some.injEq, dropV_cells] at h ⊢
        subst h
        exact ⟨_, rfl, by simp⟩
      | cons a path =>
        simp only [AV.row, dropV_sub H m x (a :: path) (by simp)] at h ⊢
        exact ⟨r, h, rfl⟩

theorem killS_get (H : AV → Bool) (k : Nat) {fr fr' : Fr} {F F' : List Fr} (he : killS H k (fr :: F) = fr' :: F') (t : Nat) : fr'.sl.get t = (fr.sl.get t).map (dropV H k) := by
  cases k <;> (simp only [killS, List.cons.injEq] at he; rw [← he.1]; simp [Fr.drop, Al.get_mapv])

theorem AddrKeep.here {G G' : Gh} {f2 : Nat} {p2 : Pl} (h : AddrKeep G G' f2 p2) : G'.addr f2 p2.base p2.path = G.addr f2 p2.base p2.path :=
  h _ _ _ (fun e => by obtain ⟨_, _, q, i, e⟩ := e; exact path_ne_through _ _ _ _ e)

section
variable {P : Program} {n : Nat} {a : Act}

theorem Rel.stCells {H : AV → Bool} {t k L : Nat} {p : Pl} (hkF : k ≤ L) (hm : inMem p.base p.path = true) (hne : ¬ (k = 0 ∧ p.base = .sl t)) :
    ∀ (cs : List AV) (us : List Value) (j0 : Nat) (hH : ∀ i, i < cs.length → Covers H { p with j := p.j + (j0 + i) }) {w : World} {G : Gh} {fr : Fr} {F : List Fr}, Rel w G n a fr F → F.length = L → G.wr (L - k) = true → (∃ r, rowOf (rootsOf (fr :: F)) (L - k) p.base p.path = some r ∧ p.j + j0 + cs.length ≤ r.length) → us.length = cs.length →
      (∀ (i : Nat) (u : Value), us[i]? = some u → (flatV (a.tmps.getD t undef))[j0 + i]? = some u ∧ u.oneCell' = true) →
      (∀ (i : Nat) (c : AV), cs[i]? = some c → (c.owns = true → ∃ x0, fr.sl.get t = some x0 ∧ x0.cells[j0 + i]? = some c) ∧ (∀ v, c = .v v → us[i]? = some v)) →
      ∃ G' fr' F', Ai.stCells H t k p j0 cs (fr :: F) = fr' :: F' ∧ F'.length = L ∧ Rel (w.setCells (G.addr (L - k) p.base p.path).1 ((G.addr (L - k) p.base p.path).2 + (p.j + j0)) us) G' n a fr' F' ∧
        Tr L w G (rootsOf (fr :: F)) (w.setCells (G.addr (L - k) p.base p.path).1 ((G.addr (L - k) p.base p.path).2 + (p.j + j0)) us) G' (rootsOf (fr' :: F'))
  | [], us, j0, hH, w, G, fr, F, h, hl, _, _, hul, _, _ => by
    obtain rfl : us = [] := List.eq_nil_of_length_eq_zero hul
    exact ⟨G, fr, F, rfl, hl, h, Tr.refl _ _ _ _⟩
  | c :: cs, us, j0, hH, w, G, fr, F, h, hl, hwk, hrow, hul, hus, hcs => by
    subst hl
    cases us with
    | nil => simp at hul
    | cons u us =>
    obtain ⟨r, hr, hle⟩ := hrow
    simp only [List.length_cons] at hle hul
    obtain ⟨hu1, huo⟩ := hus 0 u rfl
    obtain ⟨hc1, hc2⟩ := hcs 0 c rfl
    simp only [Nat.add_zero] at hu1 hc1
    have hkk : (fr :: F).length - 1 - k = F.length - k := by simp
    -- the rest, from a state on
    have rest : ∀ (w1 : World) (G1 : Gh) (fr1 : Fr) (F1 : List Fr), w1 = w.setCell (adr G F k { p with j := p.j + j0 }) u → Ai.stCell H t j0 k { p with j := p.j + j0 } c (fr :: F) = fr1 :: F1 → Rel w1 G1 n a fr1 F1 → F1.length = F.length → Tr F.length w G (rootsOf (fr :: F)) w1 G1 (rootsOf (fr1 :: F1)) →
        G1.addr (F.length - k) p.base p.path = G.addr (F.length - k) p.base p.path → (∃ r', rowOf (rootsOf (fr1 :: F1)) (F.length - k) p.base p.path = some r' ∧ r'.length = r.length) →
        (∀ i c', i ≠ j0 → c'.owns = true → (∃ x0, fr.sl.get t = some x0 ∧ x0.cells[i]? = some c') → ∃ x0, fr1.sl.get t = some x0 ∧ x0.cells[i]? = some c') →
        ∃ G' fr' F', Ai.stCells H t k p j0 (c :: cs) (fr :: F) = fr' :: F' ∧ F'.length = F.length ∧ Rel (w.setCells (G.addr (F.length - k) p.base p.path).1 ((G.addr (F.length - k) p.base p.path).2 + (p.j + j0)) (u :: us)) G' n a fr' F' ∧
          Tr F.length w G (rootsOf (fr :: F)) (w.setCells (G.addr (F.length - k) p.base p.path).1 ((G.addr (F.length - k) p.base p.path).2 + (p.j + j0)) (u :: us)) G' (rootsOf (fr' :: F')) := by
      intro w1 G1 fr1 F1 hw1 he1 hrel1 hl1 htr1 hadr1 hrow1 hkeep
      obtain ⟨r', hr', hlr'⟩ := hrow1
      obtain ⟨G', fr', F', k1, k2, k3, k4⟩ := Rel.stCells hkF hm hne cs us (j0 + 1) (fun i hi => by have := hH (i + 1) (by simp; omega); rwa [show j0 + (i + 1) = j0 + 1 + i by omega] at this) hrel1 hl1 (by rw [htr1.wr]; exact hwk) ⟨r', hr', by omega⟩ (by omega)
        (fun i u' hi => by have := hus (i + 1) u' (by simpa using hi); rwa [show j0 + (i + 1) = j0 + 1 + i by omega] at this)
        (fun i c' hi => by
          obtain ⟨h1, h2⟩ := hcs (i + 1) c' (by simpa using hi)
          rw [show j0 + (i + 1) = j0 + 1 + i by omega] at h1
          exact ⟨fun ho => hkeep _ _ (by omega) ho (h1 ho), fun v hv => by simpa using h2 v hv⟩)
      refine ⟨G', fr', F', by simp only [Ai.stCells]; rw [he1]; exact k1, k2, ?_, ?_⟩
      · rw [hadr1] at k3
        simp only [World.setCells]
        rw [hw1] at k3
        exact k3
      · rw [hadr1] at k4
        simp only [World.setCells]
        rw [hw1] at k4 htr1
        exact htr1.trans k4
    have hjlt : p.j + j0 < r.length := by omega
    have plain : ∀ c', (c' = .v u ∨ c' = .junk) → Ai.stCell H t j0 k { p with j := p.j + j0 } c (fr :: F) = setp (fr :: F) k { p with j := p.j + j0 } c' → ∃ G' fr' F', Ai.stCells H t k p j0 (c :: cs) (fr :: F) = fr' :: F' ∧ F'.length = F.length ∧ Rel (w.setCells (G.addr (F.length - k) p.base p.path).1 ((G.addr (F.length - k) p.base p.path).2 + (p.j + j0)) (u :: us)) G' n a fr' F' ∧
          Tr F.length w G (rootsOf (fr :: F)) (w.setCells (G.addr (F.length - k) p.base p.path).1 ((G.addr (F.length - k) p.base p.path).2 + (p.j + j0)) (u :: us)) G' (rootsOf (fr' :: F')) := by
      intro c' hc' hst
      obtain ⟨fr1, F1, e1, hl1⟩ := setp_cons fr F k { p with j := p.j + j0 } c'
      obtain ⟨hrel, _, htr⟩ := h.put (p := { p with j := p.j + j0 }) hkF hwk hr hjlt hm hc' huo e1
      have hone : c'.one = true := by rcases hc' with rfl | rfl <;> rfl
      have hrow1 := setp_row hone (by simp; omega) e1 (by rw [hkk]; exact hr)
      rw [hkk] at hrow1
      refine rest _ G fr1 F1 rfl (by rw [hst, e1]) hrel hl1 htr rfl ⟨_, hrow1, by simp⟩ ?_
      intro i c2 _ _ hx
      rw [setp_get (p := { p with j := p.j + j0 }) hne e1]
      exact hx
    by_cases ho : c.owns = true
    · obtain ⟨x0, hx0, hxc⟩ := hc1 ho
      obtain ⟨fr1, F1, e1, hl1⟩ := setp_cons fr F k { p with j := p.j + j0 } .junk
      obtain ⟨hrel, _, htr⟩ := h.put (p := { p with j := p.j + j0 }) hkF hwk hr hjlt hm (Or.inr rfl) huo e1
      have hrow1 := setp_row (c := .junk) rfl (by simp; omega) e1 (by rw [hkk]; exact hr)
      rw [hkk] at hrow1
      obtain ⟨frk, Fk, ek⟩ : ∃ frk Fk, killS H k (fr1 :: F1) = frk :: Fk := by cases k <;> exact ⟨_, _, rfl⟩
      obtain ⟨fr2, F2, e2, hl2⟩ := setp_cons frk Fk 0 ⟨.sl t, [], j0⟩ .junk
      obtain ⟨fr3, F3, e3, hl3⟩ := setp_cons fr2 F2 k { p with j := p.j + j0 } c
      have hlk : Fk.length = F1.length := by have := killS_length H k (fr1 :: F1); rw [ek] at this; simpa using this
      have hconc : conc (w.setCell (adr G F k { p with j := p.j + j0 }) u) G (F1.length - k) p.base p.path (p.j + j0) = some u := by
        rw [conc_mem (R := rootsOf (fr :: F)) hm, hl1]
        obtain ⟨s, hs⟩ : ∃ s, r[p.j + j0]? = some s := ⟨r[p.j + j0], List.getElem?_eq_getElem hjlt⟩
        obtain ⟨v, hv, _⟩ := h.ok.cell _ _ _ _ _ _ hr hs
        rw [conc_mem (R := rootsOf (fr :: F)) hm] at hv
        exact cell?_setCell_same hv
      have hfinal : setp (setp (killS H k (fr1 :: F1)) 0 ⟨.sl t, [], j0⟩ .junk) k { p with j := p.j + j0 } c = fr3 :: F3 := by rw [ek, e2, e3]
      obtain ⟨G', hrel3, hl3', htr3, hadr⟩ := hrel.moveTo (p := { p with j := p.j + j0 }) (by simpa using hH 0 (by simp)) (by omega) (by rw [hl1]; exact hwk) (t := t) (j := j0) (by rw [setp_get (p := { p with j := p.j + j0 }) hne e1]; exact hx0) hxc ho hne (r := r.set (p.j + j0) .junk) (by rw [hl1]; exact hrow1) (by simp [hjlt]) hu1 hconc hfinal
      rw [hl1] at htr3 hl3' hadr
      refine rest _ G' fr3 F3 rfl ?_ hrel3 hl3' (htr.trans htr3) hadr.here ?_ ?_
      · simp only [Ai.stCell, ho, if_true]
        rw [e1]; exact hfinal
      · obtain ⟨r2, hr2, hlr2⟩ := killS_row H k (fr1 :: F1) (F.length - k) p.base p.path hrow1
        rw [ek] at hr2
        have hr3 : rowOf (rootsOf (fr2 :: F2)) (F.length - k) p.base p.path = some r2 := by
          rw [← e2, rootsOf_setp _ _ _ _ (by simp)]
          have hx2 : frk.sl.get t = some (dropV H k x0) := by rw [killS_get H k ek, setp_get (p := { p with j := p.j + j0 }) hne e1, hx0]; rfl
          have hrs : rowOf (rootsOf (frk :: Fk)) Fk.length (.sl t) [] = some ((dropV H k x0).cells.map AV.sh) := by simp [rowOf, rootsOf, Fr.root, hx2, AV.row, AV.sub]
          rw [show (frk :: Fk).length - 1 - 0 = Fk.length by simp]
          rw [rowOf_setR_other (p := ⟨.sl t, [], j0⟩) hrs (by simp [dropV_cells]; exact (List.getElem?_eq_some_iff.1 hxc).1) _ rfl _ _ _ (fun e => hne ⟨by omega, e.2.1⟩) (fun e => hne ⟨by omega, e.2.1⟩)]
          exact hr2
        have hr4 := setp_row (p := { p with j := p.j + j0 }) (owns_one ho) (by simp; omega) e3 (by rw [show (fr2 :: F2).length - 1 - k = F.length - k by simp; omega]; exact hr3)
        rw [show (fr2 :: F2).length - 1 - k = F.length - k by simp; omega] at hr4
        exact ⟨_, hr4, by simp [hlr2]⟩
      · intro i c2 hi ho2 hx
        obtain ⟨x1, hx1, hxc1⟩ := hx
        have hx2 : frk.sl.get t = some (dropV H k x1) := by rw [killS_get H k ek, setp_get (p := { p with j := p.j + j0 }) hne e1, hx1]; rfl
        have hx3 : fr2.sl.get t = some ((dropV H k x1).setCell j0 .junk) := by
          simp only [setp, List.cons.injEq] at e2
          rw [← e2.1]
          have := Fr.root_modr frk (.sl t) (fun x => x.setC [] j0 .junk) (.sl t)
          simp only [if_true, Fr.root, hx2, Option.map_some, AV.setC, AV.sub, AV.setSub] at this
          exact this
        refine ⟨_, by rw [setp_get (p := { p with j := p.j + j0 }) hne e3]; exact hx3, ?_⟩
        rw [AV.cells_setCell _ _ _ rfl, List.getElem?_set_ne (Ne.symm hi), dropV_cells, List.getElem?_map, hxc1]
        have : hitK H k c2 = false := by cases c2 <;> simp [AV.owns] at ho2 <;> cases k <;> rfl
        simp [dropC, this]
    · by_cases hv : ∃ v, c = .v v
      · obtain ⟨v, rfl⟩ := hv
        have : v = u := by have := hc2 v rfl; simpa using this.symm
        subst this
        exact plain _ (Or.inl rfl) (by simp [Ai.stCell, AV.owns])
      · refine plain _ (Or.inr rfl) ?_
        simp only [Ai.stCell, ho]
        cases c <;> simp_all

end
end Go.Proofs.Ythlehngbadianaa.Ai
/- The store: the rule. -/
set_option linter.unusedVariables false
set_option linter.unusedSimpArgs false
namespace Go.Proofs.Ythlehngbadianaa.Ai
open Go Go.RowKit

theorem row_block {w : World} {G : Gh} {R : Rt} (ok : Ok w G R) {f : Nat} {b : Base} {path : List Hop} {r : List Sh} (h : rowOf R f b path = some r) (hm : inMem b path = true) : ∃ m, blockOk w (G.wr f) (G.addr f b path).1 m := by
  cases path with
  | nil =>
    cases b with
    | sl k => simp [inMem] at hm
    | bx t =>
      refine ⟨0, ok.box f t ?_⟩
      simp only [rowOf] at h
      cases hx : R f (.bx t) with
      | none => simp [hx] at h
      | some x => rfl
  | cons a par =>
    obtain ⟨j, i⟩ := a
    rcases rowOf_hop h with ⟨es, m, h1, _⟩ | ⟨h1, _⟩
    · obtain ⟨r1, hr1, hj1⟩ := cellOf_row h1
      obtain ⟨u, _, hcs⟩ := ok.cell _ _ _ _ _ _ hr1 hj1
      simp only [CS] at hcs
      obtain ⟨_, _, cap, _, _, hb⟩ := hcs
      exact ⟨_, hb⟩
    · obtain ⟨r1, hr1, hj1⟩ := cellOf_row h1
      obtain ⟨u, _, hcs⟩ := ok.cell _ _ _ _ _ _ hr1 hj1
      simp only [CS] at hcs
      exact ⟨_, hcs.2.2⟩

/-- A row of a frame that may be written: its cells are there, and not frozen. -/
theorem row_there {w : World} {G : Gh} {R : Rt} (ok : Ok w G R) {f : Nat} {b : Base} {path : List Hop} {r : List Sh} (h : rowOf R f b path = some r) (hm : inMem b path = true) (hw : G.wr f = true) (j : Nat) (hj : j < r.length) :
    (w.cell? ⟨(G.addr f b path).1, (G.addr f b path).2 + j, none⟩).isSome = true ∧ w.frozen? ⟨(G.addr f b path).1, (G.addr f b path).2 + j, none⟩ = false := by
  obtain ⟨v, hv, _⟩ := ok.cell _ _ _ _ j r[j] h (List.getElem?_eq_getElem hj)
  rw [conc_mem (R := R) hm] at hv
  refine ⟨by rw [hv]; rfl, ?_⟩
  obtain ⟨m, arr, e, fz, h1, _, h3⟩ := row_block ok h hm
  have hlt : (G.addr f b path).2 + j < arr.size := by
    unfold World.cell? at hv
    rw [h1] at hv
    simp only at hv
    rcases Nat.lt_or_ge ((G.addr f b path).2 + j) arr.size with h' | h'
    · exact h'
    · simp [Array.getElem?_eq_none h'] at hv
  have h4 := h3 hw _ hlt
  unfold World.frozen?
  rw [h1]
  obtain ⟨lo, hi⟩ := fz
  simp only at h4 ⊢
  simp only [Bool.and_eq_false_iff, decide_eq_false_iff_not]
  omega

section
variable {P : Program} {n : Nat} {fr : Fr} {F : List Fr}

theorem run_storeAt {w : World} {G : Gh} {R : Rt} (ok : Ok w G R) {f : Nat} {b : Base} {path : List Hop} {r : List Sh} (h : rowOf R f b path = some r) (hm : inMem b path = true) (hw : G.wr f = true) {j m : Nat} {ty : TypeId} {v : Value} (hsz : sizeT P ty = some m)
    (hvs : v.cells.size = m) (hones : ∀ x ∈ v.cells.toList, x.oneCell' = true) (hj : j + m ≤ r.length) :
    (Instr.storeAt ty (.pointer (some ⟨(G.addr f b path).1, (G.addr f b path).2 + j, none⟩)) v).run P w = .ok () (w.setCells (G.addr f b path).1 ((G.addr f b path).2 + j) v.cells.toList) := by
  have hst := run_storeCells_cells (P := P) (G.addr f b path).1 ((G.addr f b path).2 + j) v.cells.toList 0 w
    (fun i hi => by have := (row_there ok h hm hw (j + i) (by simp at hi; omega)).1; rwa [← Nat.add_assoc] at this)
    (fun i hi => by have := (row_there ok h hm hw (j + i) (by simp at hi; omega)).2; rwa [← Nat.add_assoc] at this) hones
  simp only [Nat.add_zero] at hst
  simp only [Instr.storeAt, Instr.sureAddr, storeVar, Sem.run_bind, Sem.run_pure, Result.andThen_ok, run_sizeOf hsz, hvs, ne_eq, not_true_eq_false, if_false, hst]

/-- A store of what a slot holds. -/
theorem AOp_store {o : Oper} {ty : TypeId} {x : Operand} {ox : Opd} {t k : Nat} {p : Pl} {vx z x0 : AV} {K : Post} {H : AV → Bool} {fr' : Fr} {F' : List Fr} (hop : o.op = .store ty x (.tmp t)) (hd : o.dst = none) (hox : opd x = some ox)
    (hx : fr.ev ox = some vx) (hde : deref (fr :: F) vx = some (z, p, k)) (hx0 : fr.sl.get t = some x0) (hnt : notTup x0 = true) (hsz : sizeT P ty = some x0.cells.length) (hle : p.j + x0.cells.length ≤ z.cells.length) (hpos : 0 < x0.cells.length)
    (hrw : ((fr :: F).map Fr.rw)[k]? = some true) (hne : ¬ (k = 0 ∧ p.base = .sl t)) (hH : ∀ i, i < x0.cells.length → Covers H { p with j := p.j + i }) (he : stCells H t k p 0 x0.cells (fr :: F) = fr' :: F') (hk : K fr' F') : AOp P n o fr F K := by
  intro w G a h
  obtain ⟨hkF, hvx, hm, hrow, _, hu1⟩ := h.deref hx hde (by omega)
  rw [opd_to hox] at hu1
  have hwk : G.wr (F.length - k) = true := by
    have := h.wr.1.2 k hrw
    simpa using this
  obtain ⟨hsh, hones⟩ := h.shape t x0 hx0
  have hcells : (a.tmps.getD t undef).cells.toList = flatV (a.tmps.getD t undef) := by
    cases hx1 : x0.one with
    | true =>
      have hu : (a.tmps.getD t undef).oneCell' = true := by cases x0 <;> simp_all [Shape, AV.one]
      rw [cells_of_one hu, flatV_of_one hu]
    | false =>
      cases x0 <;> simp [AV.one] at hx1
      · obtain ⟨us, hus, _⟩ := hsh; rw [hus]; rfl
      · simp [notTup] at hnt
  have hlen := hsh.len
  have hrun := run_storeAt (P := P) h.ok hrow hm hwk (j := p.j) (v := a.tmps.getD t undef) hsz (by rw [← hlen, ← hcells]; simp) (by rw [hcells]; exact hones) (by simpa using hle)
  obtain ⟨G', fr2, F2, k1, k2, k3, k4⟩ := Rel.stCells hkF hm hne x0.cells (flatV (a.tmps.getD t undef)) 0 (fun i hi => by simpa using hH i hi) h rfl hwk ⟨_, hrow, by simpa using hle⟩ hlen
    (fun i u hi => ⟨by rw [Nat.zero_add]; exact hi, hones u (List.mem_of_getElem? hi)⟩)
    (fun i c hi => by
      refine ⟨fun _ => ⟨x0, hx0, by rw [Nat.zero_add]; exact hi⟩, ?_⟩
      rintro v rfl
      have hrow0 : rowOf (rootsOf (fr :: F)) F.length (.sl t) [] = some (x0.cells.map AV.sh) := by simp [rowOf, rootsOf, Fr.root, hx0, AV.row, AV.sub]
      obtain ⟨u, hu, hcs⟩ := h.ok.cell _ _ _ _ i (.val v) hrow0 (by simp [hi, AV.sh])
      simp only [CS] at hcs
      subst hcs
      simpa [conc, inMem, h.tm] using hu)
  rw [he] at k1
  obtain ⟨rfl, rfl⟩ : fr' = fr2 ∧ F' = F2 := by simpa using k1
  have hex : (execOp a.eval o).run P w = .ok .skip (w.setCells (G.addr (F.length - k) p.base p.path).1 ((G.addr (F.length - k) p.base p.path).2 + p.j) (flatV (a.tmps.getD t undef))) := by
    rw [← hcells]
    unfold execOp
    simp only [hop, Sem.run_bind, hu1]
    rw [show a.eval (.tmp t) = a.tmps.getD t undef from rfl, hrun]
    rfl
  simp only [Oper.wp, hex, Oper.upon, hd]
  exact ⟨G', fr', F', hk, k2, k3, k4⟩

/-- A store of a constant. -/
theorem AOp_storeC {o : Oper} {ty : TypeId} {x : Operand} {ox : Opd} {v : Value} {k : Nat} {p : Pl} {vx z : AV} {K : Post} {fr' : Fr} {F' : List Fr} (hop : o.op = .store ty x (.const v)) (hd : o.dst = none) (hox : opd x = some ox)
    (hx : fr.ev ox = some vx) (hde : deref (fr :: F) vx = some (z, p, k)) (hv : v.oneCell' = true) (hsz : sizeT P ty = some 1) (hle : p.j < z.cells.length)
    (hrw : ((fr :: F).map Fr.rw)[k]? = some true) (he : setp (fr :: F) k p (.v v) = fr' :: F') (hk : K fr' F') : AOp P n o fr F K := by
  intro w G a h
  obtain ⟨hkF, hvx, hm, hrow, _, hu1⟩ := h.deref hx hde hle
  rw [opd_to hox] at hu1
  have hwk : G.wr (F.length - k) = true := by
    have := h.wr.1.2 k hrw
    simpa using this
  have hc1 := cells_of_one hv
  have hrun := run_storeAt (P := P) h.ok hrow hm hwk (j := p.j) (v := v) hsz (by rw [hc1]; rfl) (by rw [hc1]; simpa using hv) (by simp; omega)
  obtain ⟨k3, k2, k4⟩ := h.put hkF hwk hrow (by simpa using hle) hm (Or.inl rfl) hv he
  have hex : (execOp a.eval o).run P w = .ok .skip (w.setCell (adr G F k p) v) := by
    unfold execOp
    simp only [hop, Sem.run_bind, hu1]
    rw [show a.eval (.const v) = v from rfl, hrun, hc1]
    rfl
  simp only [Oper.wp, hex, Oper.upon, hd]
  exact ⟨G, fr', F', hk, k2, k3, k4⟩

end
end Go.Proofs.Ythlehngbadianaa.Ai
/- What a cell owns goes over to another cell, anywhere in the stack. -/
set_option linter.unusedVariables false
set_option linter.unusedSimpArgs false
namespace Go.Proofs.Ythlehngbadianaa.Ai
open Go Go.RowKit

theorem getp_killS (H : AV → Bool) : ∀ (k1 k : Nat) (S : List Fr) (p : Pl) (c : AV), getp S k p = some c → c.owns = true → getp (killS H k1 S) k p = some c
  | k1, k, [], p, c, h, _ => by simp [getp] at h
  | k1, 0, fr :: F, p, c, h, ho => by
    have key : ∀ m, ((fr.drop H m).root p.base).bind (fun x => x.cellIn p.path p.j) = some c := by
      intro m
      simp only [getp] at h
      rw [Fr.root_drop]
      cases hx : fr.root p.base with
      | none => simp [hx] at h
      | some x =>
        simp only [hx, Option.bind_some, Option.map_some, AV.cellIn] at h ⊢
        by_cases hp : p.path = []
        · simp only [hp, AV.sub, Option.bind_some, dropV_cells, List.getElem?_map] at h ⊢
          rw [h]
          have : hitK H m c = false := by cases c <;> simp [AV.owns] at ho <;> cases m <;> rfl
          simp [dropC, this]
        · rw [dropV_sub H m x p.path hp]; exact h
    cases k1 with
    | zero => simp only [killS, getp]; exact key 0
    | succ k1 => simp only [killS, getp]; exact key _
  | 0, k + 1, fr :: F, p, c, h, ho => by simp only [killS, getp] at h ⊢; exact h
  | k1 + 1, k + 1, fr :: F, p, c, h, ho => by simp only [killS, getp] at h ⊢; exact getp_killS H k1 k F p c h ho

section
variable {P : Program} {w : World} {G : Gh} {n : Nat} {a : Act} {fr : Fr} {F : List Fr}

theorem Rel.moveP (h : Rel w G n a fr F) {H : AV → Bool} {k1 k2 : Nat} {p1 p2 : Pl} {c : AV} (hH : Covers H p2) (hsrc : getp (fr :: F) k1 p1 = some c) (howns : c.owns = true) (hrw1 : ((fr :: F).map Fr.rw)[k1]? = some true) (hrw2 : ((fr :: F).map Fr.rw)[k2]? = some true)
    (hdst : getp (setp (killS H k2 (fr :: F)) k1 p1 .junk) k2 p2 = some .junk) (hconc : conc w G (F.length - k2) p2.base p2.path p2.j = conc w G (F.length - k1) p1.base p1.path p1.j)
    {fr' : Fr} {F' : List Fr} (he : setp (setp (killS H k2 (fr :: F)) k1 p1 .junk) k2 p2 c = fr' :: F') :
    ∃ G', Rel w G' n a fr' F' ∧ F'.length = F.length ∧ Tr F.length w G (rootsOf (fr :: F)) w G' (rootsOf (fr' :: F')) ∧ AddrKeep G G' (F.length - k2) p2 ∧ G'.tm = G.tm := by
  have hone : c.one = true := owns_one howns
  have hwk : ∀ k, ((fr :: F).map Fr.rw)[k]? = some true → G.wr (F.length - k) = true := by
    intro k hk
    have := h.wr.1.2 k hk
    simpa using this
  obtain ⟨hk1, _⟩ := getp_cellAV _ _ _ _ hsrc
  have hk2 : k2 < (fr :: F).length := by
    have := (getp_cellAV _ _ _ _ hdst).1
    rw [setp_length, killS_length] at this
    exact this
  have hw1 := Weak.killS H k2 (fr :: F)
  obtain ⟨fr1, F1, e1⟩ : ∃ fr1 F1, killS H k2 (fr :: F) = fr1 :: F1 := by cases k2 <;> exact ⟨_, _, rfl⟩
  have hl1 : F1.length = F.length := by have := killS_length H k2 (fr :: F); rw [e1] at this; simpa using this
  have hrw1' : (fr1 :: F1).map Fr.rw = (fr :: F).map Fr.rw := by rw [← e1, killS_rw]
  have hoff := killS_off hH (k := k2) (S := fr :: F) hk2 h.clean
  have hkk : ∀ k, (fr :: F).length - 1 - k = F.length - k := by simp
  rw [hkk] at hoff
  have hsrc1 := getp_killS H k2 k1 _ _ _ hsrc howns
  rw [e1] at he hw1 hoff hdst hsrc1
  have hok1 := h.ok.weaken hw1
  have hcl1 := hw1.clean h.clean
  have hshape1 : ∀ k' x, fr1.sl.get k' = some x → Shape x (a.tmps.getD k' undef) ∧ ∀ v ∈ flatV (a.tmps.getD k' undef), v.oneCell' = true := by
    intro k' x hx
    rw [killS_get H k2 e1, Option.map_eq_some_iff] at hx
    obtain ⟨y, hy, rfl⟩ := hx
    exact ⟨dropV_shape (h.shape k' y hy).1, (h.shape k' y hy).2⟩
  have hc1 := (getp_cellAV _ _ _ _ hsrc1).2
  rw [show (fr1 :: F1).length - 1 - k1 = F.length - k1 by simp [hl1]] at hc1
  obtain ⟨rs, hrs, hss, hjs⟩ := cellAV_cellOf hc1
  obtain ⟨fr2, F2, e2, hl2⟩ := setp_cons fr1 F1 k1 p1 .junk
  obtain ⟨fr3, F3, e3, hl3⟩ := setp_cons fr2 F2 k2 p2 c
  rw [e2] at hdst
  have hR2 : rootsOf (fr2 :: F2) = setR (rootsOf (fr1 :: F1)) (F.length - k1) p1 .junk := by
    rw [← e2, rootsOf_setp _ _ _ _ (by simp at hk1 ⊢; omega)]
    simp [hl1]
  have hR3 : rootsOf (fr3 :: F3) = setR (rootsOf (fr2 :: F2)) (F.length - k2) p2 c := by
    rw [← e3, rootsOf_setp _ _ _ _ (by simp at hk2 ⊢; omega)]
    simp [hl2, hl1]
  have hc2 := (getp_cellAV _ _ _ _ hdst).2
  rw [show (fr2 :: F2).length - 1 - k2 = F.length - k2 by simp [hl2, hl1], hR2] at hc2
  obtain ⟨r2, hr2, hs2, hj2⟩ := cellAV_cellOf hc2
  obtain ⟨G', hok2, hcl2, hw2, htm2, hadr, hun2⟩ := OkMove hok1 hcl1 hc1 howns (hwk _ hrw1) hr2 hj2 (by intro s hs; rw [hs2] at hs; obtain rfl := Option.some.inj hs; rfl) (hwk _ hrw2) hconc (by
      intro f b path r x hr hx
      rcases rowOf_setR_leaf hrs hjs (c := .junk) rfl rfl hr with ⟨rfl, rfl, rfl, rfl⟩ | ⟨_, h6⟩
      · rcases List.mem_or_eq_of_mem_set hx with hx2 | hx2
        · exact hoff _ _ _ _ _ hrs hx2
        · simp [AV.sh] at hx2
      · exact hoff _ _ _ _ _ h6 hx)
  rw [e2, e3] at he
  obtain ⟨rfl, rfl⟩ : fr3 = fr' ∧ F3 = F' := by simpa using he
  rw [← hR2, ← hR3] at hok2 hcl2 hun2
  have hrw3 : (fr3 :: F3).map Fr.rw = (fr :: F).map Fr.rw := by rw [← e3, setp_rw, ← e2, setp_rw, hrw1']
  refine ⟨G', ⟨hok2, ?_, ?_, h.size, ?_, h.defers, hcl2⟩, by omega, ?_, hadr, htm2⟩
  · intro k'; rw [htm2, hl3, hl2, hl1]; exact h.tm k'
  · exact shape_setp hone e3 _ (shape_setp (c := .junk) rfl e2 _ hshape1)
  · rw [hrw3]; exact h.wr.cong hw2
  · have t1 : Tr F.length w G (rootsOf (fr :: F)) w G (rootsOf (fr1 :: F1)) := Tr.weak hw1 (by
      intro f k' x' hf hx'
      rw [← e1, rootsOf_killS] at hx'
      split at hx'
      · simp only [Option.map_eq_some_iff] at hx'
        obtain ⟨y, hy, rfl⟩ := hx'
        exact ⟨y, hy, fun u hu => dropV_shape hu⟩
      · split at hx'
        · simp only [Option.map_eq_some_iff] at hx'
          obtain ⟨y, hy, rfl⟩ := hx'
          exact ⟨y, hy, fun u hu => dropV_shape hu⟩
        · exact ⟨x', hx', fun _ h => h⟩)
    refine t1.trans ⟨rfl, rfl, rfl, Nat.le_refl _, hw2, fun f k' _ => by rw [htm2], fun b _ hb => ⟨rfl, hun2 b hb⟩, ?_⟩
    exact (Shp.setp F.length (c := .junk) rfl (by simp at hk1 ⊢; omega) e2).trans (Shp.setp F.length hone (by simp at hk2 ⊢; omega) e3)

/-- One move: out of where, into which. -/
structure Mv where
  k1 : Nat
  p1 : Pl
  k2 : Nat
  p2 : Pl

/-- Not below a cell: by its depth. -/
def apart1 (k : Nat) (p : Pl) (m : Mv) : Bool := decide (k ≠ m.k2) || decide (p.base ≠ m.p2.base) || decide (p.path.length ≤ m.p2.path.length)

def mvRun : List Mv → List Fr → Option (List Fr)
  | [], S => some S
  | m :: ms, S =>
    match getp S m.k1 m.p1 with
    | some c =>
      if c.owns && (S.map Fr.rw)[m.k1]? == some true && (S.map Fr.rw)[m.k2]? == some true && ms.all (fun m' => apart1 m'.k1 m'.p1 m && apart1 m'.k2 m'.p2 m) then
        match getp (setp (killS (hitsP m.p2) m.k2 S) m.k1 m.p1 .junk) m.k2 m.p2 with
        | some .junk => mvRun ms (setp (setp (killS (hitsP m.p2) m.k2 S) m.k1 m.p1 .junk) m.k2 m.p2 c)
        | _ => none
      else none
    | none => none

theorem apart1_addr {G G' : Gh} {m : Mv} {L : Nat} (h : AddrKeep G G' (L - m.k2) m.p2) {k : Nat} {p : Pl} (hk : k ≤ L) (hk2 : m.k2 ≤ L) (ha : apart1 k p m = true) : G'.addr (L - k) p.base p.path = G.addr (L - k) p.base p.path := by
  refine h _ _ _ ?_
  rintro ⟨e1, e2, q, i, e3⟩
  simp only [apart1, Bool.or_eq_true, decide_eq_true_eq] at ha
  rcases ha with (ha | ha) | ha
  · omega
  · exact ha e2
  · rw [e3] at ha; simp at ha; omega

theorem Rel.moves : ∀ (ms : List Mv) {w : World} {G : Gh} {fr : Fr} {F : List Fr} {fr' : Fr} {F' : List Fr}, Rel w G n a fr F → mvRun ms (fr :: F) = some (fr' :: F') →
    (∀ m ∈ ms, m.k1 ≤ F.length ∧ m.k2 ≤ F.length ∧ conc w G (F.length - m.k2) m.p2.base m.p2.path m.p2.j = conc w G (F.length - m.k1) m.p1.base m.p1.path m.p1.j) →
    ∃ G', Rel w G' n a fr' F' ∧ F'.length = F.length ∧ Tr F.length w G (rootsOf (fr :: F)) w G' (rootsOf (fr' :: F'))
  | [], w, G, fr, F, fr', F', h, hr, _ => by
    simp only [mvRun, Option.some.injEq, List.cons.injEq] at hr
    obtain ⟨rfl, rfl⟩ := hr
    exact ⟨G, h, rfl, Tr.refl _ _ _ _⟩
  | m :: ms, w, G, fr, F, fr', F', h, hr, hc => by
    simp only [mvRun] at hr
    cases hg : getp (fr :: F) m.k1 m.p1 with
    | none => simp [hg] at hr
    | some c =>
      simp only [hg] at hr
      split at hr
      · rename_i hcond
        simp only [Bool.and_eq_true, beq_iff_eq, List.all_eq_true] at hcond
        obtain ⟨⟨⟨ho, h1⟩, h2⟩, h3⟩ := hcond
        split at hr
        · rename_i hd
          obtain ⟨hk1, hk2, hcc⟩ := hc m (by simp)
          obtain ⟨frk, Fk, ek⟩ : ∃ frk Fk, killS (hitsP m.p2) m.k2 (fr :: F) = frk :: Fk := by cases m.k2 <;> exact ⟨_, _, rfl⟩
          obtain ⟨fr1, F1, e1, hl1⟩ := setp_cons frk Fk m.k1 m.p1 .junk
          obtain ⟨fr2, F2, e2, hl2⟩ := setp_cons fr1 F1 m.k2 m.p2 c
          have he : setp (setp (killS (hitsP m.p2) m.k2 (fr :: F)) m.k1 m.p1 .junk) m.k2 m.p2 c = fr2 :: F2 := by rw [ek, e1, e2]
          obtain ⟨G1, k1, k2, k3, k4, k5⟩ := h.moveP (covers_hitsP m.p2) hg ho h1 h2 hd hcc he
          rw [he] at hr
          obtain ⟨G', g1, g2, g3⟩ := Rel.moves ms k1 hr (by
            intro m' hm'
            obtain ⟨b1, b2, b3⟩ := hc m' (by simp [hm'])
            obtain ⟨c1, c2⟩ := h3 m' hm'
            refine ⟨by omega, by omega, ?_⟩
            rw [k2]
            have a1 := apart1_addr k4 b1 hk2 c1
            have a2 := apart1_addr k4 b2 hk2 c2
            simp only [conc, a1, a2, k5] at b3 ⊢
            exact b3)
          rw [k2] at g3 g2
          exact ⟨G', g1, g2, k3.trans g3⟩
        · simp at hr
      · simp at hr

end
end Go.Proofs.Ythlehngbadianaa.Ai
/- A slice literal whose elements own things. -/
set_option linter.unusedVariables false
set_option linter.unusedSimpArgs false
namespace Go.Proofs.Ythlehngbadianaa.Ai
open Go Go.RowKit

def skelV (c : AV) : AV :=
  match c with
  | .v u => .v u
  | _ => .junk
def skelE (x : AV) : AV := mapV skelV x
theorem skelV_one (x : AV) : (skelV x).one = true := by cases x <;> rfl
theorem skelE_cells (x : AV) : (skelE x).cells = x.cells.map skelV := mapV_cells skelV (fun x _ => skelV_one x) x

/-- A new element: so many cells, no tuple. -/
def okElem (es : Nat) (x : AV) : Bool := notTup x && x.cells.length == es

section
variable {P : Program} {w : World} {G : Gh} {n : Nat} {a : Act} {fr : Fr} {F : List Fr}

theorem VR_cells {R : Rt} {f : Nat} {x : AV} {u : Value} (h : VR w G R f x u) (hn : notTup x = true) : u.cells.toList = flatV u := by
  obtain ⟨hs, _, _⟩ := h
  cases hx : x.one with
  | true =>
    have hu : u.oneCell' = true := by cases x <;> simp_all [Shape, AV.one]
    rw [cells_of_one hu, flatV_of_one hu]
  | false =>
    cases x <;> simp [AV.one] at hx
    · obtain ⟨us, rfl, _⟩ := hs; rfl
    · simp [notTup] at hn

/-- What is known of a literal's elements lies in its block. -/
theorem newAt_skel {W : World} {es : Nat} (hpos : 0 < es) {xs : List AV} {vss : List (List Value)} (hl : vss.length = xs.length) (hes : ∀ x ∈ xs, x.cells.length = es) (hles : ∀ vs ∈ vss, vs.length = es) (hones : ∀ vs ∈ vss, ∀ v ∈ vs, v.oneCell' = true)
    (hv : ∀ (i : Nat) (x : AV) (vs : List Value) (jj : Nat) (u v : Value), xs[i]? = some x → vss[i]? = some vs → x.cells[jj]? = some (.v v) → vs[jj]? = some u → u = v) {B o : Nat} (hc : ∀ k v, vss.flatten[k]? = some v → W.cell? ⟨B, o + k, none⟩ = some v) :
    NewAt W B o es (xs.map skelE) ∧ Plains es (xs.map skelE) := by
  constructor
  · intro i y hy jj c hcj
    rw [List.getElem?_map, Option.map_eq_some_iff] at hy
    obtain ⟨x, hx, rfl⟩ := hy
    rw [skelE_cells, List.getElem?_map, Option.map_eq_some_iff] at hcj
    obtain ⟨c0, hc0, rfl⟩ := hcj
    have hlt : i < vss.length := by rw [hl]; exact (List.getElem?_eq_some_iff.1 hx).1
    have hvi : vss[i]? = some vss[i] := List.getElem?_eq_getElem hlt
    have hjj : jj < es := by rw [← hes x (List.mem_of_getElem? hx)]; exact (List.getElem?_eq_some_iff.1 hc0).1
    have hvl : vss[i].length = es := hles _ (List.mem_of_getElem? hvi)
    have hu : vss[i][jj]? = some vss[i][jj] := List.getElem?_eq_getElem (by omega)
    refine ⟨vss[i][jj], ?_, hones _ (List.mem_of_getElem? hvi) _ (List.mem_of_getElem? hu), ?_⟩
    · have := hc (i * es + jj) vss[i][jj] (by rw [flatMap_get hpos vss i jj hles hjj, hvi]; exact hu)
      rw [← Nat.add_assoc] at this
      exact this
    · intro v e
      cases c0 <;> simp [skelV] at e
      subst e
      exact hv i x _ jj _ _ hx hvi hc0 hu
  · intro y hy
    rw [List.mem_map] at hy
    obtain ⟨x, hx, rfl⟩ := hy
    refine ⟨by rw [skelE_cells]; simpa using hes x hx, ?_⟩
    intro c hc
    rw [skelE_cells, List.mem_map] at hc
    obtain ⟨c0, _, rfl⟩ := hc
    cases c0 <;> first | (left; rfl) | (right; exact ⟨_, rfl⟩)

/-- Where the elements of an owned list in a slot lie. -/
theorem own_addr (h : Rel w G n a fr F) {d es : Nat} {xs : List AV} {B o cap : Nat} {len : Nat} (hd : fr.sl.get d = some (.own es xs)) (hv : a.tmps.getD d undef = .slice (some ⟨B, o, none⟩) len cap) : G.h F.length (.sl d) [] 0 = (B, o, es) := by
  have hrow : rowOf (rootsOf (fr :: F)) F.length (.sl d) [] = some [Sh.own es xs.length] := by simp [rowOf, rootsOf, Fr.root, hd, AV.row, AV.sub, AV.cells, AV.sh]
  obtain ⟨u, hu, hcs⟩ := h.ok.cell _ _ _ _ 0 _ hrow rfl
  simp only [CS] at hcs
  obtain ⟨h1, _, cap', h2, _⟩ := hcs
  simp only [conc, inMem, Bool.false_eq_true, if_false, h.tm, hv] at hu
  simp only [flatV, List.getElem?_cons_zero, Option.some.injEq] at hu
  rw [← hu] at h2
  simp only [Value.slice.injEq, Option.some.injEq, Addr.mk.injEq] at h2
  obtain ⟨⟨e1, e2, _⟩, _, _⟩ := h2
  rw [Prod.ext_iff, Prod.ext_iff]
  exact ⟨e1.symm, e2.symm, h1⟩

def litMv (d : Nat) (x : Nat × Nat × Nat) : Mv := ⟨0, ⟨.sl x.1, [], x.2.2⟩, 0, ⟨.sl d, [(0, x.2.1)], x.2.2⟩⟩
def okLit (d es : Nat) (parts : List (Nat × Operand)) (x : Nat × Nat × Nat) : Bool :=
  decide (x.1 ≠ d) && decide (x.2.2 < es) && match parts[x.2.1]? with
  | some (_, .tmp t) => t == x.1
  | _ => false

theorem AOp_litO {o : Oper} {t : TypeId} {len : Nat} {parts : Array (Nat × Operand)} {os : List Opd} {e : TypeId} {z : Value} {es bytes d : Nat} {b : Bool} {K : Post} (hop : o.op = .buildSlice t len parts) (hidx : parts.toList.map (·.1) = List.range len)
    (hos : (parts.toList.map (·.2)).mapM opd = some os) (hi : mkInfo P t = some (e, z, es, bytes)) (hd : o.dst = some d) (hdn : d < n) (hlen0 : 0 < len) (hsmall : len * es ≤ 16777216)
    {xs : List AV} (hxs : os.mapM fr.ev = some xs) (hok : xs.all (okElem es) = true) {idx : List (Nat × Nat × Nat)} (hix : idx.all (okLit d es parts.toList) = true) {fr' : Fr} {F' : List Fr}
    (hmv : mvRun (idx.map (litMv d)) ((fr.kill (.sl d)).set d (.own es (xs.map skelE)) :: F) = some (fr' :: F')) (hk : K fr' F') : AOpC b P n o fr F K := by
  intro w G a h
  have hI := mkInfo_spec hi
  obtain ⟨i, hi1, hi2, hi3, hi4⟩ := hI.parts
  have hpl' := parts.toList.length_map (f := (·.1))
  obtain ⟨hxl, hxg⟩ := mapM_evs h _ _ _ hos hxs
  have hplen : parts.toList.length = len := by rw [← hpl', hidx, List.length_range]
  rw [List.length_map, hplen] at hxl
  have hokx : ∀ x ∈ xs, notTup x = true ∧ x.cells.length = es := by
    intro x hx
    have := List.all_eq_true.1 hok x hx
    simpa [okElem] using this
  let us : List Value := parts.toList.map fun x => a.eval x.2
  have husl : us.length = len := by simp only [us, List.length_map]; exact hplen
  let vss : List (List Value) := us.map fun v => v.cells.toList
  have hvl : vss.length = xs.length := by simp only [vss, List.length_map, husl, hxl]
  have hus : ∀ (k : Nat) (u : Value), us[k]? = some u → ∃ x, xs[k]? = some x ∧ VR w G (rootsOf (fr :: F)) F.length x u := by
    intro k u hu
    have hlt : k < len := by rw [← husl]; exact (List.getElem?_eq_some_iff.1 hu).1
    have hxk : xs[k]? = some xs[k] := List.getElem?_eq_getElem (by omega)
    obtain ⟨x, hx1, hx2⟩ := hxg k _ hxk
    have hue : u = a.eval x := by
      simp only [us, List.getElem?_map, Option.map_eq_some_iff] at hu hx1
      obtain ⟨q, hq, rfl⟩ := hu
      obtain ⟨q', hq', rfl⟩ := hx1
      rw [hq] at hq'
      rw [Option.some.inj hq']
    exact ⟨_, hxk, by rw [hue]; exact hx2⟩
  have hucells : ∀ (k : Nat) (u : Value) (x : AV), us[k]? = some u → xs[k]? = some x → u.cells.toList = flatV u ∧ (flatV u).length = es := by
    intro k u x hu hx
    obtain ⟨x', hx', hvr⟩ := hus k u hu
    rw [hx] at hx'
    obtain rfl := Option.some.inj hx'
    obtain ⟨h1, h2⟩ := hokx x (List.mem_of_getElem? hx)
    exact ⟨VR_cells hvr h1, by rw [hvr.1.len, h2]⟩
  have hles : ∀ vs ∈ vss, vs.length = es := by
    intro vs hvs
    simp only [vss, List.mem_map] at hvs
    obtain ⟨u, hu, rfl⟩ := hvs
    obtain ⟨k, hk'⟩ := List.getElem?_of_mem hu
    obtain ⟨x, hx, _⟩ := hus k u hk'
    obtain ⟨h1, h2⟩ := hucells k u x hk' hx
    rw [h1]; exact h2
  have hones : ∀ vs ∈ vss, ∀ v ∈ vs, v.oneCell' = true := by
    intro vs hvs v hv
    simp only [vss, List.mem_map] at hvs
    obtain ⟨u, hu, rfl⟩ := hvs
    obtain ⟨k, hk'⟩ := List.getElem?_of_mem hu
    obtain ⟨x, hx, hvr⟩ := hus k u hk'
    rw [(hucells k u x hk' hx).1] at hv
    exact hvr.2.1 v hv
  have hflat : (us.flatMap fun v => v.cells.toList) = vss.flatten := by rw [List.flatMap_def]
  have hsz : ∀ v ∈ us, v.cells.size = es := by
    intro v hv
    have := hles v.cells.toList (List.mem_map.2 ⟨v, hv, rfl⟩)
    simpa using this
  have hfill := Great.fill_whole hI.pos us ((Array.range (len * i.size)).map (z.cells[· % z.cells.size]!)) hsz (by simp [husl, hi3])
  have hparts : (parts.map fun (i, x) => (i, a.eval x)).toList = ((us.zipIdx 0).map fun x => (x.2, x.1)) := by
    rw [Array.toList_map]
    apply List.ext_getElem?
    intro k
    simp only [List.getElem?_map, List.getElem?_zipIdx, us]
    cases hp : parts.toList[k]? with
    | none => simp
    | some q =>
      have : q.1 = k := by
        have h1' : (parts.toList.map (·.1))[k]? = some q.1 := by rw [List.getElem?_map, hp]; rfl
        rw [hidx, List.getElem?_range (by rw [← hplen]; exact (List.getElem?_eq_some_iff.1 hp).1)] at h1'
        exact (Option.some.inj h1').symm
      simp [this]
  have hrun := run_buildSlice (P := P) w t e len (parts.map fun (i, x) => (i, a.eval x)) _ i z hI.under hi1 hi2 (by rw [hi3]; omega) (by rw [hi3]; have := Nat.mul_pos hlen0 hI.pos; omega) (by rw [hparts]; simp only [hi3] at hfill ⊢; exact hfill)
  have hexec : (execOp a.eval o).run P w = .ok (.value (.slice (some ⟨w.heap.size, 0, none⟩) len len)) (w.alloc (.cells (us.flatMap fun v => v.cells.toList).toArray e)) := by
    simp only [execOp, hop, Sem.run_bind, hrun, Result.andThen_ok, Sem.run_pure]
  simp only [Oper.wp, hexec, Oper.upon, hd]
  have hbel : Below w.heap.size w (w.alloc (.cells (us.flatMap fun v => v.cells.toList).toArray e)) := (Below.refl _ _).alloc (Nat.le_refl _) _
  have hcell : ∀ k v, vss.flatten[k]? = some v → (w.alloc (.cells (us.flatMap fun v => v.cells.toList).toArray e)).cell? ⟨w.heap.size, 0 + k, none⟩ = some v := by
    intro k v hv
    rw [cell_alloc_new, Nat.zero_add, hflat]
    simpa using hv
  obtain ⟨hna, hpn⟩ := newAt_skel (W := w.alloc (.cells (us.flatMap fun v => v.cells.toList).toArray e)) hI.pos hvl (fun x hx => (hokx x hx).2) hles hones (by
    intro k x vs jj u v hx hvs hc hu
    simp only [vss, List.getElem?_map, Option.map_eq_some_iff] at hvs
    obtain ⟨uu, huu, rfl⟩ := hvs
    obtain ⟨x', hx', hvr⟩ := hus k uu huu
    rw [hx] at hx'
    obtain rfl := Option.some.inj hx'
    rw [(hucells k uu x huu hx).1] at hu
    obtain ⟨u', hu', hrv⟩ := ((RVs_iff _ _).1 hvr.2.2).2 jj _ hc
    rw [hu] at hu'
    obtain rfl := Option.some.inj hu'
    cases F.length <;> simpa [RV] using hrv) hcell
  have hlenxs : (xs.map skelE).length = len := by rw [List.length_map, hxl]
  obtain ⟨G1, fr1, F1, ⟨hfr1, hF1⟩, hl1, hrel1, htr1⟩ := h.newList (w' := w.alloc (.cells (us.flatMap fun v => v.cells.toList).toArray e)) hbel hdn (B := w.heap.size) (o := 0) (cap := len) (es := es) (Nat.le_refl _) hI.pos hpn hna (by omega)
    (by
      refine blockOk_alloc ?_
      rw [hflat]
      simp only [List.size_toArray, flatten_len vss hles, hvl, hxl]
      omega) (K := fun fr2 F2 => fr2 = (fr.kill (.sl d)).set d (.own es (xs.map skelE)) ∧ F2 = F) ⟨rfl, rfl⟩
  rw [hlenxs, hfr1, hF1] at hrel1
  rw [hfr1, hF1] at htr1
  have haddr := own_addr hrel1 (d := d) (es := es) (xs := xs.map skelE) (by simp [Fr.set, Al.get_set]) (getD_self (by rw [h.size]; exact hdn))
  obtain ⟨G', g1, g2, g3⟩ := Rel.moves _ hrel1 hmv (by
    intro m hm
    rw [List.mem_map] at hm
    obtain ⟨⟨s, ii, jj⟩, hx, rfl⟩ := hm
    have hk2 := List.all_eq_true.1 hix _ hx
    simp only [okLit, Bool.and_eq_true, decide_eq_true_eq] at hk2
    obtain ⟨⟨hsd, hjj⟩, hpp⟩ := hk2
    refine ⟨Nat.zero_le _, Nat.zero_le _, ?_⟩
    simp only [litMv, Nat.sub_zero]
    split at hpp
    · rename_i q t' hpq
      have ht' : t' = s := by simpa using hpp
      subst ht'
      have huu : us[ii]? = some (a.tmps.getD t' undef) := by simp only [us, List.getElem?_map, hpq]; rfl
      obtain ⟨x, hx', hvr⟩ := hus ii _ huu
      obtain ⟨e1, e2⟩ := hucells ii _ x huu hx'
      have hju : (flatV (a.tmps.getD t' undef))[jj]? = some (flatV (a.tmps.getD t' undef))[jj] := List.getElem?_eq_getElem (by omega)
      have hdst : (w.alloc (.cells (us.flatMap fun v => v.cells.toList).toArray e)).cell? ⟨w.heap.size, 0 + (ii * es + jj), none⟩ = some (flatV (a.tmps.getD t' undef))[jj] := by
        refine hcell _ _ ?_
        rw [flatMap_get hI.pos vss ii jj hles hjj]
        simp only [vss, List.getElem?_map, huu, Option.map_some, Option.bind_some, e1]
        exact hju
      have c1 : conc (w.alloc (.cells (us.flatMap fun v => v.cells.toList).toArray e)) G1 F.length (.sl d) [(0, ii)] jj = some (flatV (a.tmps.getD t' undef))[jj] := by
        simp only [conc, inMem_cons, if_true, Gh.addr, haddr]
        rw [← hdst, Nat.add_assoc]
      have c2 : conc (w.alloc (.cells (us.flatMap fun v => v.cells.toList).toArray e)) G1 F.length (.sl t') [] jj = some (flatV (a.tmps.getD t' undef))[jj] := by
        simp only [conc, inMem, Bool.false_eq_true, if_false, hrel1.tm]
        rw [getD_put _ _ _ _ (by rw [h.size]; exact hdn), if_neg hsd]
        exact hju
      rw [c1, c2]
    · simp at hpp)
  exact ⟨fun _ => hbel, G', fr', F', hk, g2, g1, htr1.trans g3⟩

end
end Go.Proofs.Ythlehngbadianaa.Ai
/- append, over elements that own things. -/
set_option linter.unusedVariables false
set_option linter.unusedSimpArgs false
namespace Go.Proofs.Ythlehngbadianaa.Ai
open Go Go.RowKit

section
variable {P : Program} {n : Nat} {fr : Fr} {F : List Fr}

/-- What is appended, as it lies in memory. -/
theorem Rel.srcS {w : World} {G : Gh} {a : Act} (h : Rel w G n a fr F) {x : Opd} {y : AV} {es : Nat} {ty : TypeId} {ys : List AV} (hx : fr.ev x = some y) (hs : rdS es (fr :: F) y = some ys) (hk : ∃ e', P.underlying ty = some (.slice e')) (hpos : 0 < es) :
    ∃ vss : List (List Value), Src P es ty (a.eval x.to) ys.length vss.flatten w ∧ vss.length = ys.length ∧ (∀ y ∈ ys, y.cells.length = es) ∧ (∀ vs ∈ vss, vs.length = es) ∧ (∀ vs ∈ vss, ∀ v ∈ vs, v.oneCell' = true) ∧
      (∀ (i : Nat) (x : AV) (vs : List Value) (jj : Nat) (u v : Value), ys[i]? = some x → vss[i]? = some vs → x.cells[jj]? = some (.v v) → vs[jj]? = some u → u = v) ∧
      (∀ B o len cap, a.eval x.to = .slice (some ⟨B, o, none⟩) len cap → ∀ k v, vss.flatten[k]? = some v → w.cell? ⟨B, o + k, none⟩ = some v) := by
  obtain ⟨e', he'⟩ := hk
  obtain ⟨ad, cap, hu, hcap, hcase⟩ := h.rd hx hs
  rcases hcase with ⟨rfl, rfl, rfl⟩ | ⟨B, o, rfl, hl, hc⟩
  · refine ⟨[], ?_, rfl, by simp, by simp, by simp, by simp, by simp⟩
    rw [hu]
    exact Src.ofNil w he' 0
  · let vss : List (List Value) := (List.range ys.length).map fun i => (List.range es).map fun jj => (w.cell? ⟨B, o + i * es + jj, none⟩).getD undef
    have hvl : vss.length = ys.length := by simp [vss]
    have hles : ∀ vs ∈ vss, vs.length = es := by
      intro vs hvs
      simp only [vss, List.mem_map] at hvs
      obtain ⟨i, _, rfl⟩ := hvs
      simp
    have hcell : ∀ i jj, i < ys.length → jj < es → ∃ u, w.cell? ⟨B, o + i * es + jj, none⟩ = some u ∧ u.oneCell' = true ∧ (vss[i]?).bind (·[jj]?) = some u ∧ ∀ y v, ys[i]? = some y → y.cells[jj]? = some (.v v) → u = v := by
      intro i jj hi hjj
      have hy : ys[i]? = some ys[i] := List.getElem?_eq_getElem hi
      have hyl := hl _ (List.mem_of_getElem? hy)
      have hcj : ys[i].cells[jj]? = some ys[i].cells[jj] := List.getElem?_eq_getElem (by omega)
      obtain ⟨u, h1, h2, h3⟩ := hc i _ hy jj _ hcj
      refine ⟨u, h1, h2, ?_, ?_⟩
      · simp [vss, hi, hjj, h1]
      · intro y v hy' hv
        rw [hy] at hy'
        obtain rfl := Option.some.inj hy'
        rw [hcj] at hv
        exact h3 v (Option.some.inj hv)
    have hget : ∀ i vs jj u, vss[i]? = some vs → vs[jj]? = some u → i < ys.length ∧ jj < es ∧ (vss[i]?).bind (·[jj]?) = some u := by
      intro i vs jj u h1 h2
      refine ⟨by rw [← hvl]; exact (List.getElem?_eq_some_iff.1 h1).1, ?_, by rw [h1]; exact h2⟩
      rw [← hles vs (List.mem_of_getElem? h1)]
      exact (List.getElem?_eq_some_iff.1 h2).1
    have hones : ∀ vs ∈ vss, ∀ v ∈ vs, v.oneCell' = true := by
      intro vs hvs v hv
      obtain ⟨i, hi⟩ := List.getElem?_of_mem hvs
      obtain ⟨jj, hj⟩ := List.getElem?_of_mem hv
      obtain ⟨a1, a2, a3⟩ := hget i vs jj v hi hj
      obtain ⟨u, _, h2, h3, _⟩ := hcell i jj a1 a2
      rw [a3] at h3
      rw [Option.some.inj h3]; exact h2
    have hflat : ∀ k v, vss.flatten[k]? = some v → w.cell? ⟨B, o + k, none⟩ = some v := by
      intro k v hk
      have hdiv : k = (k / es) * es + k % es := by rw [Nat.mul_comm]; exact (Nat.div_add_mod k es).symm
      have hmod : k % es < es := Nat.mod_lt _ hpos
      rw [hdiv, flatMap_get hpos vss _ _ hles hmod, Option.bind_eq_some_iff] at hk
      obtain ⟨vs, h1, h2⟩ := hk
      obtain ⟨a1, a2, a3⟩ := hget _ vs _ v h1 h2
      obtain ⟨u, h4, _, h5, _⟩ := hcell _ _ a1 a2
      rw [a3] at h5
      obtain rfl := Option.some.inj h5
      rw [hdiv, ← Nat.add_assoc]
      exact h4
    refine ⟨vss, ?_, hvl, hl, hles, hones, ?_, ?_⟩
    · rw [hu]
      refine Src.ofSlice w he' ⟨B, o, none⟩ ys.length cap vss.flatten (by rw [flatten_len vss hles, hvl]) ?_ ?_
      · intro j u hj
        rw [add_plain']
        exact hflat j u hj
      · intro u hu
        obtain ⟨vs, hvs, hv⟩ := List.mem_flatten.1 hu
        exact hones vs hvs u hv
    · intro i x vs jj u v hx hvs hc' hu'
      obtain ⟨a1, a2, a3⟩ := hget i vs jj u hvs hu'
      obtain ⟨u2, _, _, h5, h6⟩ := hcell i jj a1 a2
      rw [a3] at h5
      obtain rfl := Option.some.inj h5
      exact h6 x v hx hc'
    · intro B' o' len cap' he k v hk
      rw [hu] at he
      simp only [Value.slice.injEq, Option.some.injEq, Addr.mk.injEq] at he
      obtain ⟨⟨rfl, rfl, _⟩, _, _⟩ := he
      exact hflat k v hk

def appMv (s d len : Nat) (x : Nat × Nat) : Mv := ⟨0, ⟨.sl s, [(0, x.1)], x.2⟩, 0, ⟨.sl d, [(0, len + x.1)], x.2⟩⟩

/-- The moves behind an append, shown of the state in which the elements lie there twice. -/
theorem app_moves {w' : World} {G' : Gh} {a' : Act} {fr' : Fr} {F' : List Fr} {fr2 : Fr} {F2 : List Fr} (hrel : Rel w' G' n a' fr' F') {s d es len : Nat} {ys : List AV} {zs : List AV} {vss : List (List Value)} (hpos : 0 < es) (hvl : vss.length = ys.length) (hles : ∀ vs ∈ vss, vs.length = es)
    (hs : fr'.sl.get s = some (.own es ys)) (hd : fr'.sl.get d = some (.own es zs)) {Bs os ls cs Bd od ld cd : Nat} (hvs : a'.tmps.getD s undef = .slice (some ⟨Bs, os, none⟩) ls cs) (hvd : a'.tmps.getD d undef = .slice (some ⟨Bd, od, none⟩) ld cd)
    (hcs : ∀ k v, vss.flatten[k]? = some v → w'.cell? ⟨Bs, os + k, none⟩ = some v) (hcd : ∀ k v, vss.flatten[k]? = some v → w'.cell? ⟨Bd, od + len * es + k, none⟩ = some v)
    {idx : List (Nat × Nat)} (hix : idx.all (fun x => decide (x.1 < ys.length) && decide (x.2 < es)) = true) (hmv : mvRun (idx.map (appMv s d len)) (fr' :: F') = some (fr2 :: F2)) :
    ∃ G2, Rel w' G2 n a' fr2 F2 ∧ F2.length = F'.length ∧ Tr F'.length w' G' (rootsOf (fr' :: F')) w' G2 (rootsOf (fr2 :: F2)) := by
  have a1 := own_addr hrel hs hvs
  have a2 := own_addr hrel hd hvd
  refine Rel.moves _ hrel hmv ?_
  intro m hm
  rw [List.mem_map] at hm
  obtain ⟨⟨i, jj⟩, hx, rfl⟩ := hm
  have hk := List.all_eq_true.1 hix _ hx
  simp only [Bool.and_eq_true, decide_eq_true_eq] at hk
  refine ⟨Nat.zero_le _, Nat.zero_le _, ?_⟩
  have hvi : vss[i]? = some vss[i] := List.getElem?_eq_getElem (by omega)
  have hvil := hles _ (List.mem_of_getElem? hvi)
  have hv : vss.flatten[i * es + jj]? = some vss[i][jj] := by
    rw [flatMap_get hpos vss i jj hles hk.2, hvi]
    exact List.getElem?_eq_getElem (by omega)
  have c1 := hcs _ _ hv
  have c2 := hcd _ _ hv
  simp only [appMv, Nat.sub_zero, conc, inMem_cons, if_true, Gh.addr, a1, a2]
  rw [show od + (len + i) * es + jj = od + len * es + (i * es + jj) by rw [Nat.add_mul]; omega, show os + i * es + jj = os + (i * es + jj) by omega, c1, c2]

set_option maxHeartbeats 1000000 in
/-- append onto a list that the frames own -/
theorem AOp_appO_own {o : Oper} {x : Operand} {ox : Opd} {t ty e : TypeId} {z : Value} {es bytes d s : Nat} {K : Post} (hI : AppInfo P o x (.tmp s) t ty e z es bytes false) (hox : opd x = some ox) (hd : o.dst = some d) (hdn : d < n)
    {vx : AV} (hx : fr.ev ox = some vx) {xs : List AV} {p : Pl} {off len k : Nat} (hsl : slcell (fr :: F) vx = some (xs, p, es, off, len, k)) (hfull : off + len = xs.length) (hrw : ((fr :: F).map Fr.rw)[k]? = some true) (hne : ¬ (k = 0 ∧ p.base = .sl d))
    (hsd : s ≠ d) (hnes : ¬ (k = 0 ∧ p.base = .sl s)) {ys : List AV} (hslot : fr.sl.get s = some (.own es ys)) (hb : (len + ys.length) * bytes ≤ 140737488355328) (h63 : len + ys.length ≤ 9223372036854775807)
    {idx : List (Nat × Nat)} (hix : idx.all (fun x => decide (x.1 < ys.length) && decide (x.2 < es)) = true) {xs2 : List AV} (hget : getp ((fr.kill (.sl d)).set d .junk :: F) k p = some (.own es xs2)) (hxs2 : xs2 = xs)
    (hk : ∀ fr' F', setp (setp ((fr.kill (.sl d)).set d .junk :: F) k p .junk) 0 ⟨.sl d, [], 0⟩ (.own es (xs.drop off ++ ys.map skelE)) = fr' :: F' → fr'.sl.get s = some (.own es ys) ∧ ∃ fr2 F2, mvRun (idx.map (appMv s d len)) (fr' :: F') = some (fr2 :: F2) ∧ K fr2 F2) : AOp P n o fr F K := by
  subst hxs2
  intro w G a h
  obtain ⟨i, hi1, hi2, hi3, hi4⟩ := hI.info.parts
  have hys : fr.ev (.s s) = some (.sl ⟨.sl s, [], 0⟩ es 0 ys.length) := by simp [Fr.ev, hslot, borrow, borrow1]
  have hrd : rdS es (fr :: F) (.sl ⟨.sl s, [], 0⟩ es 0 ys.length) = some ys := by
    simp [rdS, nilsl, slcell, Fr.root, hslot, AV.cellIn, AV.sub, AV.cells]
  obtain ⟨vss, hsrc, hvl, hyes, hles, hones, hplain, hmem⟩ := h.srcS (P := P) hys hrd (by have := hI.kind; simpa using this) hI.info.pos
  have hval : ∃ Bs os cs, a.tmps.getD s undef = .slice (some ⟨Bs, os, none⟩) ys.length cs ∧ Bs = (G.h F.length (.sl s) [] 0).1 := by
    obtain ⟨_, _, _, _, _, ao', cap', hu', _⟩ := h.slcell hys (show slcell (fr :: F) (.sl ⟨.sl s, [], 0⟩ es 0 ys.length) = some (ys, ⟨.sl s, [], 0⟩, es, 0, ys.length, 0) by simp [slcell, Fr.root, hslot, AV.cellIn, AV.sub, AV.cells])
    exact ⟨_, ao', cap', hu', rfl⟩
  obtain ⟨Bs, os, cs, hvs, hBs⟩ := hval
  have hmem' := hmem Bs os ys.length cs hvs
  change Src P es ty (a.eval (.tmp s)) ys.length vss.flatten w at hsrc
  have hsrc' : Src P i.size ty (a.eval (.tmp s)) ys.length vss.flatten w := by rw [hi3]; exact hsrc
  obtain ⟨hkF, hvx, hcell, hav, _, ao, cap, hu1, hcap, hao, hblk⟩ := h.slcell hx hsl
  rw [opd_to hox] at hu1
  have hwk : G.wr (F.length - k) = true := by
    have := h.wr.1.2 k hrw
    simpa using this
  rw [hwk] at hblk
  have hfl : vss.flatten.length = ys.length * es := by rw [flatten_len vss hles, hvl]
  -- the common end: a world, a block
  have hend : ∀ (w' : World) (B o' cap' : Nat), Rel w' G n a fr F → (w'.os = w.os ∧ w'.tape = w.tape ∧ w'.output = w.output ∧ w.heap.size ≤ w'.heap.size) → (∀ b, b < w.heap.size → Un G (rootsOf (fr :: F)) b → w'.heap[b]? = w.heap[b]?) →
      (B = (G.h (F.length - k) p.base p.path p.j).1 ∨ w.heap.size ≤ B) →
      (∀ i jj, i < len → jj < es → w'.cell? ⟨B, o' + i * es + jj, none⟩ = w'.cell? ⟨(G.h (F.length - k) p.base p.path p.j).1, (G.h (F.length - k) p.base p.path p.j).2.1 + (off + i) * es + jj, none⟩) →
      NewAt w' B (o' + len * es) es (ys.map skelE) → Plains es (ys.map skelE) → (∀ k v, vss.flatten[k]? = some v → w'.cell? ⟨B, o' + len * es + k, none⟩ = some v) → (∀ k v, vss.flatten[k]? = some v → w'.cell? ⟨Bs, os + k, none⟩ = some v) → len + ys.length ≤ cap' → blockOk w' true B (o' + cap' * es) → Good n fr F w G K (a.put (some d) (.slice (some ⟨B, o', none⟩) (len + ys.length) cap')) w' := by
    intro w' B o' cap' hr ⟨hos, htape, hout, hsz⟩ hkeep hB hcells hnew hpl hcd hcs hcap' hblk'
    have h1 := hr.kill (.sl d)
    have h2 := h1.set hdn (x := .junk) (v := .slice (some ⟨B, o', none⟩) (len + ys.length) cap') (VR_junk rfl)
    have hG1 := getp_cellAV _ _ _ _ hget
    have hlen1 : ((fr.kill (.sl d)).set d .junk :: F).length - 1 - k = F.length - k := by simp
    rw [hlen1] at hG1
    have hnohit : NoHit ((fr.kill (.sl d)).set d .junk) (.sl d) := by
      intro b' x hx c hc
      cases b' with
      | bx t => exact NoHit.kill fr (.sl d) (.bx t) x hx c hc
      | sl s =>
        simp only [Fr.root, Fr.set, Al.get_set] at hx
        split at hx
        · simp only [Option.some.injEq] at hx; subst hx; simp [AV.cells] at hc; subst hc; rfl
        · exact NoHit.kill fr (.sl d) (.sl s) x hx c hc
    have hblkEq : ∀ ow : Owner, ow.blk (G.setTm F.length d (.slice (some ⟨B, o', none⟩) (len + ys.length) cap')) = ow.blk G := fun ow => by cases ow <;> rfl
    have hvalidR : ∀ ow : Owner, ow.valid (rootsOf ((fr.kill (.sl d)).set d .junk :: F)) → ow.valid (rootsOf (fr :: F)) := by
      intro ow how
      rw [rootsOf_set] at how
      exact (Weak.kill fr F (.sl d)).valid (valid_setRoot_flat (x := .junk) (by intro c hc; simp [AV.cells] at hc; subst hc; exact ⟨rfl, rfl⟩) how (by simp))
    obtain ⟨G', fr', F', he, hl, hrel, hw, htm, hun⟩ := h2.adopt (k := k) (p := p) (es := es) (xs := xs2) hkF hG1.2 hwk (d := d) (j := 0) (x0 := .junk) (c0 := .junk) (by simp [Fr.set, Al.get_set]) rfl rfl hne hnohit off len (by omega) (ys.map skelE) hpl B o' cap'
      (by
        rcases hB with hB | hB
        · exact Or.inl hB
        · right
          intro ow how
          rw [hblkEq]
          have := h.ok.blk_lt (hvalidR ow how)
          omega)
      hcells hnew (by rw [getD_self (by rw [h.size]; exact hdn), List.length_map]; rfl) (by rw [List.length_map]; exact hcap') hblk'
    have htake : (xs2.drop off).take len = xs2.drop off := by rw [List.take_of_length_le]; simp; omega
    rw [htake] at he
    obtain ⟨hslot', fr2, F2, hmv, hk2⟩ := hk fr' F' he
    have hd' : ∃ zs, fr'.sl.get d = some (.own es zs) := by
      obtain ⟨fr1, F1, e1, hl1⟩ := setp_cons ((fr.kill (.sl d)).set d .junk) F k p .junk
      rw [e1] at he
      have hg1 : fr1.sl.get d = some .junk := by rw [setp_get hne e1]; simp [Fr.set, Al.get_set]
      simp only [setp, List.cons.injEq] at he
      have := Fr.root_modr fr1 (.sl d) (fun x => x.setC [] 0 (.own es (xs2.drop off ++ ys.map skelE))) (.sl d)
      simp only [if_true, Fr.root, hg1, Option.map_some, AV.setC, AV.sub, AV.setSub, AV.setCell, if_true] at this
      rw [← he.1]
      exact ⟨_, this⟩
    obtain ⟨zs, hd'⟩ := hd'
    obtain ⟨G2, m1, m2, m3⟩ := app_moves hrel (s := s) (d := d) (len := len) hI.info.pos hvl hles hslot' hd' (Bs := Bs) (os := os) (Bd := B) (od := o') (by rw [getD_put _ _ _ _ (by rw [h.size]; exact hdn), if_neg hsd]; exact hvs) (getD_self (by rw [h.size]; exact hdn)) hcs hcd hix hmv
    rw [hl] at m2 m3
    suffices htr1 : Tr F.length w G (rootsOf (fr :: F)) w' G' (rootsOf (fr' :: F')) from ⟨G2, fr2, F2, hk2, m2, m1, htr1.trans m3⟩
    refine ⟨hos, htape, hout, hsz, hw, ?_, ?_, ?_⟩
    · intro f k' hf
      rw [htm]
      simp only [Gh.setTm]
      rw [if_neg (fun e => by omega)]
    · intro b hlt hu
      refine ⟨hkeep b hlt hu, hun b ?_ ?_⟩
      · intro ow how hwro
        rw [hblkEq]
        exact hu ow (hvalidR ow how) hwro
      · rcases hB with hB | hB
        · intro e
          subst e
          refine hu (Owner.cell (F.length - k) p.base p.path p.j) (Or.inl ⟨es, xs2.length, hcell⟩) hwk ?_
          simp only [Owner.blk]; exact hB.symm
        · omega
    · have hl1 := setp_length ((fr.kill (.sl d)).set d .junk :: F) k p .junk
      refine ((Shp.cons fr ((fr.kill (.sl d)).set d .junk) F).trans (Shp.setp F.length (c := .junk) rfl (by simp; omega) rfl)).trans (Shp.setp F.length (p := ⟨.sl d, [], 0⟩) rfl (by rw [hl1]; simp) he)
  by_cases hroom : len + ys.length ≤ cap
  · -- room
    have hao' : ys.length = 0 ∧ len = 0 ∨ ao = (G.h (F.length - k) p.base p.path p.j).2.1 + off * es := by
      rcases hao with h0 | h0
      · left; omega
      · right; exact h0
    have hcellb : ∀ j, j < vss.flatten.length → ∃ arr e fz, w.heap[(G.h (F.length - k) p.base p.path p.j).1]? = some (.cells arr e fz) ∧ ao + len * es + j < arr.size ∧ ¬ (fz.1 ≤ ao + len * es + j ∧ ao + len * es + j < fz.2) := by
      intro j hj
      obtain ⟨arr, e', fz, h1, h2, h3⟩ := hblk
      have : (len + ys.length) * es ≤ cap * es := Nat.mul_le_mul_right _ hroom
      rw [Nat.add_mul] at this
      exact ⟨arr, e', fz, h1, by omega, h3 rfl _ (by omega)⟩
    have hcc : ∀ j, j < vss.flatten.length → (w.cell? ⟨(G.h (F.length - k) p.base p.path p.j).1, ao + len * es + j, none⟩).isSome = true := by
      intro j hj
      obtain ⟨arr, e', fz, h1, h2, _⟩ := hcellb j hj
      unfold World.cell?
      rw [h1]
      simp [h2]
    have hrun := run_append_room_src w t ty o.type e i hI.info.under hi1 (G.h (F.length - k) p.base p.path p.j).1 ao len cap (a.eval (.tmp s)) ys.length vss.flatten hsrc' hroom (by rw [hi3]; exact hcc) (by
      rw [hi3]
      intro j hj
      obtain ⟨arr, e', fz, h1, h2, h3⟩ := hcellb j hj
      unfold World.frozen?
      rw [h1]
      obtain ⟨lo, hi⟩ := fz
      simp only at h3 ⊢
      simp only [Bool.and_eq_false_iff, decide_eq_false_iff_not]
      omega)
    rw [← hu1, hi3] at hrun
    simp only [Oper.wp, hI.exec hrun, Oper.upon, hd]
    have hokS : Ok (w.setCells (G.h (F.length - k) p.base p.path p.j).1 (ao + len * es) vss.flatten) G (rootsOf (fr :: F)) := by
      rcases hao' with ⟨h0, h00⟩ | h0
      · have : vss.flatten = [] := List.eq_nil_of_length_eq_zero (by rw [hfl, h0]; simp)
        rw [this]; exact h.ok
      · refine h.ok.behind hcell hwk _ _ ?_
        rw [h0, ← hfull, Nat.add_mul]; omega
    have hcd1 : ∀ k' v, vss.flatten[k']? = some v → (w.setCells (G.h (F.length - k) p.base p.path p.j).1 (ao + len * es) vss.flatten).cell? ⟨(G.h (F.length - k) p.base p.path p.j).1, ao + len * es + k', none⟩ = some v := fun k' v hv => setCells_in _ _ _ _ _ _ hcc hv
    obtain ⟨hna, hpn⟩ := newAt_skel (W := w.setCells (G.h (F.length - k) p.base p.path p.j).1 (ao + len * es) vss.flatten) hI.info.pos hvl hyes hles hones hplain (B := (G.h (F.length - k) p.base p.path p.j).1) (o := ao + len * es) hcd1
    have hslotv : (Owner.cell F.length (.sl s) [] 0).valid (rootsOf (fr :: F)) := Or.inl ⟨es, ys.length, by simp [cellOf, rowOf, rootsOf, Fr.root, hslot, AV.row, AV.sub, AV.cells, AV.sh]⟩
    have hBne : Bs ≠ (G.h (F.length - k) p.base p.path p.j).1 := by
      intro e
      have := h.ok.inj _ (Owner.cell (F.length - k) p.base p.path p.j) hslotv (Or.inl ⟨es, xs2.length, hcell⟩) h.wr0 (by simp only [Owner.blk]; rw [← hBs, e])
      simp only [Owner.cell.injEq] at this
      exact hnes ⟨by omega, this.2.1.symm⟩
    have hcs1 : ∀ k' v, vss.flatten[k']? = some v → (w.setCells (G.h (F.length - k) p.base p.path p.j).1 (ao + len * es) vss.flatten).cell? ⟨Bs, os + k', none⟩ = some v := fun k' v hv => by
      rw [World.cell?_setCells_out _ _ _ _ _ (fun e _ => absurd e hBne)]
      exact hmem' k' v hv
    have hstr : ∀ (vs : List Value) (o : Nat) (w : World) (B : Nat), (w.setCells B o vs).os = w.os ∧ (w.setCells B o vs).tape = w.tape ∧ (w.setCells B o vs).output = w.output ∧ (w.setCells B o vs).heap.size = w.heap.size ∧ ∀ b, b ≠ B → (w.setCells B o vs).heap[b]? = w.heap[b]? := by
      intro vs
      induction vs with
      | nil => intro o w B; exact ⟨rfl, rfl, rfl, rfl, fun _ _ => rfl⟩
      | cons v vs ih =>
        intro o w B
        obtain ⟨a1, a2, a3, a4, a5⟩ := ih (o + 1) (w.setCell ⟨B, o, none⟩ v) B
        simp only [World.setCells]
        refine ⟨a1, a2, a3, by rw [a4]; simp [World.setCell], fun b hb => ?_⟩
        rw [a5 b hb, Below.heap_setCell _ _ _ _ hb]
    obtain ⟨s1, s2, s3, s4, s5⟩ := hstr vss.flatten (ao + len * es) w (G.h (F.length - k) p.base p.path p.j).1
    refine hend _ (G.h (F.length - k) p.base p.path p.j).1 ao cap ⟨hokS, h.tm, h.shape, h.size, h.wr, h.defers, h.clean⟩ ⟨s1, s2, s3, by omega⟩ ?_ (Or.inl rfl) ?_ hna hpn hcd1 hcs1 hroom (Wle.setCells w _ _ _ _ _ _ _ hblk)
    · intro b hlt hu
      refine s5 b (fun e => ?_)
      subst e
      exact hu (Owner.cell (F.length - k) p.base p.path p.j) (Or.inl ⟨es, xs2.length, hcell⟩) hwk rfl
    · intro i' jj hi' hjj
      rcases hao' with ⟨_, h00⟩ | h0
      · omega
      · rw [h0]
        congr 2
        rw [Nat.add_mul]; omega
  · -- a new block
    have hao' : len = 0 ∨ ao = (G.h (F.length - k) p.base p.path p.j).2.1 + off * es := by
      rcases hao with h0 | h0
      · left; omega
      · right; exact h0
    let olds : List Value := (List.range (len * es)).map fun j => (w.cell? ⟨(G.h (F.length - k) p.base p.path p.j).1, ao + j, none⟩).getD undef
    have holds : ∀ j, j < len * es → w.cell? ⟨(G.h (F.length - k) p.base p.path p.j).1, ao + j, none⟩ = olds[j]? := by
      intro j hj
      obtain ⟨arr, e', fz, h1, h2, _⟩ := hblk
      have hle : len * es ≤ cap * es := Nat.mul_le_mul_right _ hcap
      have : w.cell? ⟨(G.h (F.length - k) p.base p.path p.j).1, ao + j, none⟩ = some arr[ao + j] := by
        unfold World.cell?
        rw [h1]
        simp [show ao + j < arr.size by omega]
      simp [olds, hj, this]
    have hol : olds.length = len * i.size := by simp [olds, hi3]
    have hfirst := run_firstCells_some (P := P) w.drew i.size len ⟨(G.h (F.length - k) p.base p.path p.j).1, ao, none⟩ len cap olds hol (by
      intro j v hj
      rw [add_plain', World.cell?_drew, holds j (by have := (List.getElem?_eq_some_iff.1 hj).1; rw [hol, hi3] at this; exact this)]
      exact hj)
    have hrun := run_append_grow_src w t ty o.type e i z hI.info.under hi1 hi2 (some ⟨(G.h (F.length - k) p.base p.path p.j).1, ao, none⟩) len cap olds hfirst (a.eval (.tmp s)) ys.length vss.flatten hsrc' (by omega) (by omega) (by rw [hi4]; exact growslice_fits (by omega) hb)
    rw [← hu1] at hrun
    simp only [Oper.wp, hI.exec hrun, Oper.upon, hd]
    have hge := grownCap_ge w (len + ys.length) cap e
    rw [hi3] at hol
    have hbel := below_drew_alloc w (.cells ((olds ++ vss.flatten).toArray ++ Builtin.zeroCells z.cells (grownCap w (len + ys.length) cap e - (len + ys.length))) e)
    have hcd1 : ∀ k' v, vss.flatten[k']? = some v → (w.drew.alloc (.cells ((olds ++ vss.flatten).toArray ++ Builtin.zeroCells z.cells (grownCap w (len + ys.length) cap e - (len + ys.length))) e)).cell? ⟨w.heap.size, 0 + len * es + k', none⟩ = some v := fun k' v hv => by
      have := grown_row (W := w.drew) (e := e) (es := es) olds vss.flatten (Builtin.zeroCells z.cells (grownCap w (len + ys.length) cap e - (len + ys.length))) 0 (len * es + k') v (by rw [List.getElem?_append_right (by omega), hol]; simpa using hv)
      rw [Nat.zero_add]
      exact this
    obtain ⟨hna, hpn⟩ := newAt_skel (W := w.drew.alloc (.cells ((olds ++ vss.flatten).toArray ++ Builtin.zeroCells z.cells (grownCap w (len + ys.length) cap e - (len + ys.length))) e)) hI.info.pos hvl hyes hles hones hplain (B := w.heap.size) (o := 0 + len * es) hcd1
    have hcs1 : ∀ k' v, vss.flatten[k']? = some v → (w.drew.alloc (.cells ((olds ++ vss.flatten).toArray ++ Builtin.zeroCells z.cells (grownCap w (len + ys.length) cap e - (len + ys.length))) e)).cell? ⟨Bs, os + k', none⟩ = some v := fun k' v hv => pw_cell hbel (hmem' k' v hv)
    refine hend _ w.heap.size 0 (grownCap w (len + ys.length) cap e) (h.world hbel) ⟨hbel.os, hbel.tape, hbel.output, hbel.size⟩ (fun b hlt _ => hbel.block b hlt) (Or.inr (Nat.le_refl _)) ?_ hna hpn hcd1 hcs1 hge ?_
    · intro i' jj hi' hjj
      have hlt : i' * es + jj < len * es := by
        have : (i' + 1) * es ≤ len * es := Nat.mul_le_mul_right _ hi'
        rw [Nat.add_mul] at this; omega
      have hv : olds[i' * es + jj]? = some olds[i' * es + jj] := List.getElem?_eq_getElem (by omega)
      have h1 := grown_row (W := w.drew) (e := e) (es := es) olds vss.flatten (Builtin.zeroCells z.cells (grownCap w (len + ys.length) cap e - (len + ys.length))) 0 (i' * es + jj) olds[i' * es + jj] (by rw [List.getElem?_append_left (by omega)]; exact hv)
      have h2 := holds (i' * es + jj) hlt
      rw [hv] at h2
      have h3 := pw_cell hbel h2
      rw [Nat.zero_add]
      rcases hao' with h0 | h0
      · omega
      · have e9 : (G.h (F.length - k) p.base p.path p.j).2.1 + (off + i') * es + jj = ao + (i' * es + jj) := by
          have := Nat.add_mul off i' es
          omega
        rw [e9, h3]
        exact h1
    · refine blockOk_alloc (W := w.drew) ?_
      simp only [Array.size_append, List.size_toArray, List.length_append, hol, hfl, Builtin.zeroCells, Array.size_map, Array.size_range, hI.info.cells, Nat.zero_add]
      rw [← Nat.add_mul, ← Nat.add_mul]
      exact Nat.mul_le_mul_right _ (by omega)

end
end Go.Proofs.Ythlehngbadianaa.Ai
