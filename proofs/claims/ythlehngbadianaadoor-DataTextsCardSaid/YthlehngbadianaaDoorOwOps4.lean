/- New roots: what is made anew. -/
import Derived.Test.YthlehngbadianaaDoorOwCode
import Derived.Great.BuildSlice
set_option linter.unusedVariables false
set_option linter.unusedSimpArgs false
set_option linter.unnecessarySimpa false
namespace Go.Proofs.YthlehngbadianaaDoor.Ow
open Go Go.RowKit
def zeroAV (z : Value) : AV :=
  match z with
  | .agg cs => .agg (cs.toList.map .v)
  | z => .v z
theorem zeroAV_cells (z : Value) (h : ∀ vs, z ≠ .tuple vs) : (zeroAV z).cells = z.cells.toList.map .v := by
  cases z <;> simp_all [zeroAV, AV.cells, Value.cells]
section
variable {P : Program}
/-- make([]E, l, c) -/
structure MkInfo (P : Program) (t : TypeId) (e : TypeId) (z : Value) (es bytes : Nat) : Prop where
  under : P.underlying t = some (.slice e)
  info : (P.info? e).map (fun i => (i.zero, i.size, i.bytes)) = some (some z, es, bytes)
  cells : z.cells.size = es
  pos : 0 < es
  notup : ∀ vs, z ≠ .tuple vs
  ones : ∀ c ∈ z.cells.toList, c.oneCell' = true
def plainZero (z : Value) : Bool :=
  (match z with | .tuple _ => false | _ => true) && z.cells.toList.all Value.oneCell'
def mkInfo (P : Program) (t : TypeId) : Option (TypeId × Value × Nat × Nat) :=
  match P.underlying t with
  | some (.slice e) =>
    match P.info? e with
    | some i => match i.zero with
      | some z => if z.cells.size = i.size ∧ 0 < i.size ∧ plainZero z = true then some (e, z, i.size, i.bytes) else none
      | none => none
    | none => none
  | _ => none
theorem mkInfo_spec {t e : TypeId} {z : Value} {es bytes : Nat} (h : mkInfo P t = some (e, z, es, bytes)) : MkInfo P t e z es bytes := by
  simp only [mkInfo] at h
  split at h
  · rename_i e' hu
    split at h
    · rename_i i hi
      split at h
      · rename_i z' hz
        split at h
        · rename_i hc
          simp only [Option.some.injEq, Prod.mk.injEq] at h
          obtain ⟨rfl, rfl, rfl, rfl⟩ := h
          obtain ⟨h1, h2, h3⟩ := hc
          simp only [plainZero, Bool.and_eq_true] at h3
          refine ⟨hu, by simp [hi, hz], h1, h2, ?_, ?_⟩
          · intro vs e; subst e; simp at h3
          · intro c hc; simpa using List.all_eq_true.1 h3.2 c hc
        · simp at h
      · simp at h
    · simp at h
  · simp at h
theorem MkInfo.parts {t e : TypeId} {z : Value} {es bytes : Nat} (h : MkInfo P t e z es bytes) : ∃ i, P.info? e = some i ∧ i.zero = some z ∧ i.size = es ∧ i.bytes = bytes := by
  have := h.info
  simp only [Option.map_eq_some_iff, Prod.mk.injEq] at this
  obtain ⟨i, h1, h2, h3, h4⟩ := this
  exact ⟨i, h1, h2, h3, h4⟩
theorem madeCells_get (zc : Array Value) (m i jj es : Nat) (he : zc.size = es) (hi : i < m) (hj : jj < es) : (madeCells zc (m * es))[i * es + jj]? = zc[jj]? := by
  have hlt : i * es + jj < m * es := by
    have : (i + 1) * es ≤ m * es := Nat.mul_le_mul_right _ hi
    rw [Nat.add_mul] at this; omega
  simp only [madeCells, Array.getElem?_map, Array.getElem?_range, hlt, if_true, Option.map_some]
  have : (i * es + jj) % zc.size = jj := by
    rw [he, Nat.mul_comm, Nat.mul_add_mod]
    exact Nat.mod_eq_of_lt hj
  rw [this]
  rw [getElem!_def, Array.getElem?_eq_getElem (by omega)]
end
/-- What may lie in memory as it is, and owns nothing. -/
def stor1 : AV → Bool
  | .v _ => true
  | .junk => true
  | .lst _ _ => true
  | .fptr _ _ => true
  | _ => false
def stor : AV → Bool
  | .fn _ caps => caps.all stor1
  | c => stor1 c
def storE (es : Nat) (x : AV) : Bool := ntup x && x.cells.length == es && x.cells.all stor
theorem flatMap_get {es : Nat} (hpos : 0 < es) : ∀ (vss : List (List Value)) (i jj : Nat), (∀ vs ∈ vss, vs.length = es) → jj < es → vss.flatten[i * es + jj]? = (vss[i]?).bind (·[jj]?)
  | [], i, jj, _, _ => by simp
  | vs :: vss, i, jj, h, hj => by
    have hl := h vs (by simp)
    cases i with
    | zero =>
      simp only [List.flatten_cons, Nat.zero_mul, Nat.zero_add, List.getElem?_cons_zero, Option.bind_some]
      rw [List.getElem?_append_left (by omega)]
    | succ i =>
      simp only [List.flatten_cons, List.getElem?_cons_succ]
      rw [List.getElem?_append_right (by rw [Nat.add_mul]; omega), hl, show (i + 1) * es + jj - es = i * es + jj by rw [Nat.add_mul]; omega]
      exact flatMap_get hpos vss i jj (fun v hv => h v (by simp [hv])) hj
theorem flatten_len {es : Nat} : ∀ (vss : List (List Value)), (∀ vs ∈ vss, vs.length = es) → vss.flatten.length = vss.length * es
  | [], _ => by simp
  | vs :: vss, h => by
    simp only [List.flatten_cons, List.length_append, List.length_cons, h vs (by simp), flatten_len vss (fun v hv => h v (by simp [hv])), Nat.add_mul]
    omega
section
variable {P : Program} {w : World} {F X : Fp} {env : Nat → RLoc} {n : Nat} {a : Act} {st : St} {rt : Al}
theorem LR.rep {c : AV} {u : Value} (h : LR w F env rt c u) (hs : stor c = true) : Rep w F c u E0 := by
  cases c <;> simp only [stor, stor1, Bool.false_eq_true] at hs
  case fn f caps =>
    obtain ⟨us, rfl, h1, h2⟩ := h
    refine .fn h1 (fun i c v hc hv => ?_) (fun _ _ h => h)
    have := h2 i c v hc hv
    have hs1 := List.all_eq_true.1 hs c (List.mem_of_getElem? hc)
    cases c <;> simp only [stor1, Bool.false_eq_true] at hs1 <;> exact this
  all_goals exact h
theorem Rep.stor {c : AV} {u : Value} {S : Fp} (h : Rep w F c u S) (hs : stor c = true) : Rep w F c u E0 := by
  refine h.leaf ?_ ?_ ?_ <;> (intros; rintro rfl; simp [Ow.stor, stor1] at hs)
/-- The cells of a slot's value. -/
theorem SV.cells {y : AV} {u : Value} (h : SV w F env rt y u) (hn : ntup y = true) : u.cells.size = y.cells.length ∧ ∀ (i : Nat) c v, y.cells[i]? = some c → u.cells[i]? = some v → LR w F env rt c v := by
  by_cases hag : ∃ as, y = .agg as
  · obtain ⟨as, rfl⟩ := hag
    obtain ⟨us, hu, hul, hur⟩ := h
    rw [hu]
    exact ⟨hul, hur⟩
  · have hone : y.one = true := by cases y <;> simp_all [AV.one, ntup]
    have hlr := (SV_one hone).1 h
    rw [cells_of_one hlr.one, AV.cells_one hone]
    refine ⟨rfl, fun i c v hc hv' => ?_⟩
    cases i with
    | succ i => simp at hc
    | zero => simp at hc hv'; subst hc hv'; exact hlr
theorem cell_alloc_new (W : World) (arr : Array Value) (e : TypeId) (j : Nat) : (W.alloc (.cells arr e)).cell? ⟨W.heap.size, j, none⟩ = arr[j]? := by
  have h := heap_alloc_new W (.cells arr e)
  unfold World.cell?
  rw [h]
  rfl
theorem Blk_alloc {W : World} {arr : Array Value} {e : TypeId} {m : Nat} (h : m ≤ arr.size) : Blk (W.alloc (.cells arr e)) W.heap.size 0 m :=
  ⟨arr, e, (0, 0), heap_alloc_new W _, h, fun i _ _ => by simp⟩
def St.new (st : St) (r : Nat) (x : AV) : St := ⟨(st.drop r).sl, (st.drop r).rt.set r x, (st.drop r).rf⟩
/-- The world goes on, and a root comes that lies in what is new. -/
theorem Rel.newRoot (h : Rel w F E0 env n a st) {w' : World} (hb : Below w.heap.size w w') {r : Nat} (hr : pin r = false) {x : AV} {l : RLoc} {S : Fp} (hS : ∀ b a, S b a → w.heap.size ≤ b ∧ b < w'.heap.size) (hx : RootOk w' (fun b a => F b a ∨ S b a) x l S)
    (hl : (r < VB → ∃ B o, l = .mem B o) ∧ (VB ≤ r → ∃ u, l = .val u)) :
    Rel w' (fun b a => F b a ∨ S b a) E0 (fun r' => if r' = r then l else env r') n a (st.new r x) ∧ Tr w F env w' (fun b a => F b a ∨ S b a) (fun r' => if r' = r then l else env r') := by
  obtain ⟨T, ok, _⟩ := h.ok
  obtain ⟨Tr, h1, h2, h3⟩ := h.drop r
  have hfb : ∀ b a, F b a ∨ S b a → b < w'.heap.size := by
    intro b a hh
    rcases hh with hh | hh
    · exact Nat.lt_of_lt_of_le (ok.fb b a hh) hb.size
    · exact (hS b a hh).2
  have h4 := h3.world (M := E0) (F' := fun b a => F b a ∨ S b a) (X' := S) (Agree.below hb E0) (fun _ _ _ h => h.elim) (fun b a hh => hh.imp id fun hh => (hS b a hh).1) (fun _ _ hh _ => .inl hh) (fun _ _ hh => .inr hh) (fun b a hh => .inr (hS b a hh).1) hfb
  have hg : (st.drop r).rt.get r = none := by simp [St.drop, Al.get_del]
  refine ⟨h4.come hg hx (fun _ _ h => h) (X' := E0) (fun _ _ h => h.elim) hl, ⟨⟨E0, Agree.below hb E0, fun _ _ h => h.elim, fun _ _ h => h.elim⟩, fun b a hh => hh.imp id fun hh => (hS b a hh).1⟩, ?_⟩
  intro r' hr'
  simp only [show r' ≠ r by rintro rfl; rw [hr] at hr'; simp at hr', if_false]
theorem St.new_get (st : St) (r : Nat) (x : AV) : (st.new r x).rt.get r = some x := by simp [St.new, Al.get_set]
/-- A pointer to a new root. -/
theorem ref_new {w' : World} {F' : Fp} {B o r : Nat} {x : AV} : SV w' F' (fun r' => if r' = r then .mem B o else env r') (st.new r x).rt (.ref ⟨r, [], 0⟩) (.pointer (some ⟨B, o, none⟩)) :=
  ⟨B, o, by simp only [rloc, St.new_get, Option.bind_some, if_true, ploc, hopLoc, ptrTo, Option.map_some], rfl⟩
/-- A new list. -/
theorem sl_new {w' : World} {F' : Fp} {B o cap es r : Nat} {xs : List AV} (hc : xs.length ≤ cap) : SV w' F' (fun r' => if r' = r then .val (.slice (some ⟨B, o, none⟩) xs.length cap) else env r') (st.new r (.own es xs)).rt (.sl ⟨r, [], 0⟩ es 0 xs.length) (.slice (some ⟨B, o, none⟩) xs.length cap) :=
  ⟨.val (.slice (some ⟨B, o, none⟩) xs.length cap), _, xs, by simp only [rloc, St.new_get, Option.bind_some, if_true], by simp [cellAt, St.new_get, AV.cellIn, AV.sub, AV.cells], rfl, by omega, .inr ⟨B, o, _, cap, o, cap, rfl, rfl, hc, by omega, .inr (by omega)⟩⟩
/-- The cells of a new block. -/
theorem Nd.fresh {w' : World} {F' : Fp} {B m : Nat} {cs : List AV} (hm : cs.length = m) (hb : Blk w' B 0 m) (hc : ∀ (i : Nat) c, cs[i]? = some c → ∃ u, w'.cell? ⟨B, i, none⟩ = some u ∧ Rep w' F' c u E0) : Nd w' F' cs B 0 (fun b a => b = B ∧ a < m) := by
  subst hm
  refine ⟨fun i => (w'.cell? ⟨B, i, none⟩).getD undef, fun _ => E0, by rw [Nat.zero_add]; exact hb, ?_, ?_, fun _ _ _ _ h => h.elim, fun _ _ h => h.elim, fun _ _ _ h => h.elim, ?_⟩
  · intro i c h1
    obtain ⟨u, h2, _⟩ := hc i c h1
    rw [Nat.zero_add]; simp only [h2, Option.getD_some]
  · intro i c h1
    obtain ⟨u, h2, h3⟩ := hc i c h1
    simp only [h2, Option.getD_some]; exact h3
  · intro b a
    simp
theorem Rep.freshOwn {w' : World} {F' : Fp} {B es cap : Nat} {xs : List AV} (hes : 0 < es) (hcap : xs.length ≤ cap) (hb : Blk w' B 0 (cap * es)) (hlen : ∀ x ∈ xs, x.cells.length = es)
    (hc : ∀ (i : Nat) x (j : Nat) c, xs[i]? = some x → x.cells[j]? = some c → ∃ u, w'.cell? ⟨B, i * es + j, none⟩ = some u ∧ Rep w' F' c u E0) :
    Rep w' F' (.own es xs) (.slice (some ⟨B, 0, none⟩) xs.length cap) (fun b a => b = B ∧ a < cap * es) := by
  refine .own (fun i j => (w'.cell? ⟨B, i * es + j, none⟩).getD undef) (fun _ _ => E0) hes hcap (fun _ => by rw [Nat.zero_add]; exact hb) (fun i x hx => hlen x (List.mem_of_getElem? hx)) ?_ ?_ (fun _ _ _ _ _ _ h => h.elim) (fun _ _ _ h => h.elim) (fun _ _ _ _ h => h.elim) ?_
  · intro i x j c h1 h2
    obtain ⟨u, h3, _⟩ := hc i x j c h1 h2
    rw [Nat.zero_add]; simp only [h3, Option.getD_some]
  · intro i x j c h1 h2
    obtain ⟨u, h3, h4⟩ := hc i x j c h1 h2
    simp only [h3, Option.getD_some]; exact h4
  · intro b a
    simp
theorem pin_loc {d n : Nat} (hd : d < n) (hn : n ≤ 1000) (k : Nat) (hk : k < 8) : pin ((k + 1) * 1000 + d) = false := by
  simp only [pin, Bool.or_eq_false_iff, decide_eq_false_iff_not]
  omega
/-- A variable is made. -/
theorem AOpC_alloc {o : Oper} {t : TypeId} {d : Nat} {b : Bool} {K : Post} {z : Value} (hop : o.op = .alloc t) (hz : (P.info? t).bind (·.zero) = some z) (hpl : plainZero z = true) (hd : o.dst = some d) (hdn : d < n) (hn : n ≤ 1000)
    (hk : K ((st.new (1000 + d) (zeroAV z)).set d (.ref ⟨1000 + d, [], 0⟩))) : AOpC b P n o st K := by
  intro w F env a h
  rw [Option.bind_eq_some_iff] at hz
  obtain ⟨i, hi, hz⟩ := hz
  simp only [plainZero, Bool.and_eq_true] at hpl
  have hexec : (execOp a.eval o).run P w = .ok (.value (.pointer (some ⟨w.heap.size, 0, none⟩))) (w.alloc (.cells z.cells t)) := by
    unfold execOp
    cases z <;> first
      | (simp at hpl; done)
      | simp [hop, Instr.alloc, zeroValue, typeInfo, hi, hz, newVar, newRow]
  simp only [Oper.wp, hexec, Oper.upon, hd]
  have hbel : Below w.heap.size w (w.alloc (.cells z.cells t)) := (Below.refl _ _).alloc (Nat.le_refl _) _
  refine ⟨fun _ => hbel, ?_⟩
  have hzc : (zeroAV z).cells = z.cells.toList.map .v := zeroAV_cells z (by intro vs e; subst e; simp at hpl)
  have hnd : Nd (w.alloc (.cells z.cells t)) (fun b a => F b a ∨ (b = w.heap.size ∧ a < z.cells.size)) (zeroAV z).cells w.heap.size 0 (fun b a => b = w.heap.size ∧ a < z.cells.size) := by
    refine Nd.fresh (by rw [hzc]; simp) (Blk_alloc (Nat.le_refl _)) ?_
    intro i c hc
    rw [hzc, List.getElem?_map, Option.map_eq_some_iff] at hc
    obtain ⟨v, hv, rfl⟩ := hc
    exact ⟨v, by rw [cell_alloc_new]; simpa using hv, .v (List.all_eq_true.1 hpl.2 v (List.mem_of_getElem? hv)) fun _ _ h => h⟩
  obtain ⟨k1, k2⟩ := h.newRoot hbel (r := 1000 + d) (pin_loc hdn hn 0 (by omega)) (x := zeroAV z) (l := .mem w.heap.size 0) (S := fun b a => b = w.heap.size ∧ a < z.cells.size) (by rintro b a ⟨rfl, _⟩; simp) hnd ⟨fun _ => ⟨_, _, rfl⟩, fun h => by simp [VB] at h; omega⟩
  exact ⟨_, _, _, hk, k1.set hdn ref_new, k2⟩
/-- A slice is made. -/
theorem AOpC_mk {o : Oper} {t : TypeId} {l c : Operand} {ol oc : Opd} {e : TypeId} {z : Value} {es bytes d : Nat} {b : Bool} {K : Post} (hop : o.op = .makeSlice t l c) (hol : opd l = some ol) (hoc : opd c = some oc) (hi : mkInfo P t = some (e, z, es, bytes))
    (hd : o.dst = some d) (hdn : d < n) (hn : n ≤ 1000) {lv cv : Int} (hl : st.int ol = some lv) (hc : st.int oc = some cv) (h0 : 0 ≤ lv) (hlc : lv ≤ cv) (hb : (bytes : Int) * cv ≤ 281474976710656) (h63 : cv ≤ 9223372036854775807)
    (hk : K ((st.new (2000 + d) (.own es (List.replicate lv.toNat (zeroAV z)))).set d (.sl ⟨2000 + d, [], 0⟩ es 0 lv.toNat))) : AOpC b P n o st K := by
  intro w F env a h
  obtain ⟨hI⟩ : Nonempty (MkInfo P t e z es bytes) := ⟨mkInfo_spec hi⟩
  obtain ⟨i, hi1, hi2, hi3, hi4⟩ := hI.parts
  obtain ⟨kl, hkl⟩ := h.int hl
  obtain ⟨kc, hkc⟩ := h.int hc
  have hrun := run_make (P := P) w t e i z hI.under hi1 hi2 kl kc lv cv h0 hlc (by rw [hi4]; exact hb) h63
  have hexec : (execOp a.eval o).run P w = .ok (.value (.slice (some ⟨w.heap.size, 0, none⟩) lv.toNat cv.toNat)) (w.alloc (.cells (madeCells z.cells (cv.toNat * i.size)) e)) := by
    simp only [execOp, hop, Sem.run_bind, ← opd_to hol, ← opd_to hoc, hkl, hkc, hrun, Result.andThen_ok, Sem.run_pure]
  simp only [Oper.wp, hexec, Oper.upon, hd]
  rw [hi3]
  have hlen : (List.replicate lv.toNat (zeroAV z)).length = lv.toNat := List.length_replicate
  have hbel : Below w.heap.size w (w.alloc (.cells (madeCells z.cells (cv.toNat * es)) e)) := (Below.refl _ _).alloc (Nat.le_refl _) _
  refine ⟨fun _ => hbel, ?_⟩
  have hrep : Rep (w.alloc (.cells (madeCells z.cells (cv.toNat * es)) e)) (fun b a => F b a ∨ (b = w.heap.size ∧ a < cv.toNat * es)) (.own es (List.replicate lv.toNat (zeroAV z))) (.slice (some ⟨w.heap.size, 0, none⟩) (List.replicate lv.toNat (zeroAV z)).length cv.toNat) (fun b a => b = w.heap.size ∧ a < cv.toNat * es) := by
    refine Rep.freshOwn hI.pos (by rw [hlen]; omega) (Blk_alloc (by rw [size_madeCells]; omega)) ?_ ?_
    · intro y hy
      obtain rfl := (List.mem_replicate.1 hy).2
      rw [zeroAV_cells z hI.notup]
      simp [hI.cells]
    · intro i' y jj c hy hc
      rw [List.getElem?_replicate] at hy
      split at hy
      · rename_i hlt
        obtain rfl := Option.some.inj hy
        rw [zeroAV_cells z hI.notup, List.getElem?_map, Option.map_eq_some_iff] at hc
        obtain ⟨v, hv, rfl⟩ := hc
        have hjj : jj < es := by rw [← hI.cells]; simpa using (List.getElem?_eq_some_iff.1 hv).1
        refine ⟨v, ?_, .v (hI.ones v (List.mem_of_getElem? hv)) fun _ _ h => h⟩
        rw [cell_alloc_new, madeCells_get _ _ _ _ _ hI.cells (by omega) hjj]
        simpa using hv
      · simp at hy
  obtain ⟨k1, k2⟩ := h.newRoot hbel (r := 2000 + d) (pin_loc hdn hn 1 (by omega)) (x := .own es (List.replicate lv.toNat (zeroAV z))) (l := .val (.slice (some ⟨w.heap.size, 0, none⟩) (List.replicate lv.toNat (zeroAV z)).length cv.toNat)) (S := fun b a => b = w.heap.size ∧ a < cv.toNat * es)
    (by rintro b a ⟨rfl, _⟩; simp) ⟨rfl, hrep⟩ ⟨fun h => by simp [VB] at h; omega, fun _ => ⟨_, rfl⟩⟩
  have hs := sl_new (w' := w.alloc (.cells (madeCells z.cells (cv.toNat * es)) e)) (F' := fun b a => F b a ∨ (b = w.heap.size ∧ a < cv.toNat * es)) (env := env) (st := st) (B := w.heap.size) (o := 0) (es := es) (r := 2000 + d) (xs := List.replicate lv.toNat (zeroAV z)) (cap := cv.toNat) (by rw [hlen]; omega)
  have hset := k1.set hdn hs
  rw [hlen] at hset
  exact ⟨_, _, _, hk, hset, by rw [hlen] at k2; exact k2⟩
end
end Go.Proofs.YthlehngbadianaaDoor.Ow
