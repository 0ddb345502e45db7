/- A program logic over the model: what a call does is shown of trees of data (part 2). It holds of every program of the model. -/
import Derived.Test.YthlehngbadianaaAi1
import Derived.IntWalk
import Derived.ChangeArms
import Derived.WideShapes
/- A new object. -/
set_option linter.unusedVariables false
set_option linter.unusedSimpArgs false
namespace Go.Proofs.Ythlehngbadianaa.Ai
open Go Go.RowKit

/-- All cells plain, or unknown. -/
def PlainX (x : AV) : Prop := ∀ c ∈ x.cells, c = .junk ∨ ∃ v, c = .v v

theorem PlainX.row {x : AV} (h : PlainX x) {q : List Hop} {r : List Sh} (hr : x.row q = some r) : q = [] ∧ ∀ s ∈ r, s = .junk ∨ ∃ v, s = .val v := by
  have := Plains.row (es := x.cells.length) (ys := [x]) (by intro y hy; simp at hy; subst hy; exact ⟨rfl, h⟩) (y := x) (by simp) hr
  exact ⟨this.1, this.2.2⟩

theorem OkNewObj {w : World} {G : Gh} {R : Rt} (ok : Ok w G R) (cl : Clean R) {f2 : Nat} {p2 : Pl} {r2 : List Sh} (h2 : rowOf R f2 p2.base p2.path = some r2) (hj2 : p2.j < r2.length) (hl2 : ∀ s, r2[p2.j]? = some s → s.leaf = true) (hw2 : G.wr f2 = true)
    (x : AV) (hx : PlainX x) (B : Nat) (hB : ∀ ow : Owner, ow.valid R → ow.blk G ≠ B) (hnewc : ∀ jj c, x.cells[jj]? = some c → ∃ u, w.cell? ⟨B, jj, none⟩ = some u ∧ u.oneCell' = true ∧ ∀ v, c = .v v → u = v)
    (hhead : conc w G f2 p2.base p2.path p2.j = some (.pointer (some ⟨B, 0, none⟩))) (hblk : blockOk w true B 0)
    (hoff : ∀ f b path r x, rowOf R f b path = some r → .ref x ∈ r → x.off (TT f2 p2) (NN f2 p2) f) :
    ∃ G', Ok w G' (setR R f2 p2 (.obj x)) ∧ Clean (setR R f2 p2 (.obj x)) ∧ G'.wr = G.wr ∧ G'.tm = G.tm ∧
      ∀ b, Un G R b → b ≠ B → Un G' (setR R f2 p2 (.obj x)) b := by
  have M : Moves w G R R f2 p2 (.obj x) (B, 0, 0) 0 p2.base (fun _ => none) := by
    constructor
    · intro ow how; exact how
    · intro i i' k k' q q' h; simp at h
    · intro i k h; simp at h
    · intro q i r hr
      right
      rw [row_under rfl] at hr
      by_cases hi : i = 0
      · subst hi
        simp only [AV.elem, if_true, Option.bind_some] at hr
        obtain ⟨e1, e3⟩ := hx.row hr
        exact ⟨rfl, e1, e3⟩
      · simp [AV.elem, hi] at hr
    · intro i k h; simp at h
    · intro ow how q i k j h; simp at h
    · intro ow how; exact hB ow how
    · intro q i k j h; simp at h
    · intro i r hr jj s hs
      refine ⟨by intro k h; simp at h, fun _ => ?_⟩
      have hr' : (AV.obj x).row ([] ++ [(0, i)]) = some r := hr
      rw [row_under rfl] at hr'
      by_cases hi : i = 0
      · subst hi
        simp only [AV.elem, if_true, Option.bind_some, AV.row, AV.sub, Option.map_some, Option.some.injEq] at hr'
        subst hr'
        simp only [List.getElem?_map, Option.map_eq_some_iff] at hs
        obtain ⟨c, hc, rfl⟩ := hs
        obtain ⟨u, hu, ho, hv⟩ := hnewc jj c hc
        refine ⟨u, by simpa using hu, ho, ?_⟩
        intro v hv'
        cases c <;> simp [AV.sh] at hv'
        exact hv _ (by rw [hv'])
      · simp [AV.elem, hi] at hr'
    · intro es' n' he; simp [AV.sh] at he
    · intro u hu
      rw [hhead] at hu
      obtain rfl := Option.some.inj hu
      exact ⟨by simp [AV.sh], fun _ => ⟨rfl, rfl, hblk⟩⟩
    · exact hoff
  have hfin := ok.populate ok h2 hj2 hw2 (c := .obj x) rfl (Or.inr rfl) M hl2
  refine ⟨_, hfin, ?_, rfl, rfl, ?_⟩
  · intro f b a path r y hr hy
    rcases rowOf_setR_cases h2 hj2 (c := .obj x) rfl hr with ⟨rfl, rfl, e3, rfl⟩ | ⟨q, i, rfl, rfl, e3, e4⟩ | ⟨_, _, e3⟩
    · rcases List.mem_or_eq_of_mem_set hy with hy | hy
      · exact cl _ _ _ _ _ _ (by rw [e3]; exact h2) hy
      · simp [AV.sh] at hy
    · rcases M.nodes _ _ _ e4 with ⟨k, _, _, hno⟩ | ⟨_, _, hpl⟩
      · exact hno _ hy _ rfl
      · rcases hpl _ hy with h | ⟨v, h⟩ <;> simp at h
    · exact cl _ _ _ _ _ _ e3 hy
  · intro b hb hbB ow how hwr e
    rcases ownerKind_of M h2 hj2 rfl ow how with rfl | ⟨q, i, k, j, hk, rfl, hv, hbl⟩ | ⟨hv, hbl⟩
    · simp only [Owner.blk, Gh.moved_here] at e
      exact hbB e.symm
    · simp at hk
    · exact hb _ hv hwr (by rw [← hbl]; exact e)

section
variable {P : Program} {w : World} {G : Gh} {n : Nat} {a : Act} {fr : Fr} {F : List Fr}

/-- A slot gets a new object. -/
theorem Rel.newObj {w' : World} (h : Rel w G n a fr F) (hb : Below w.heap.size w w') {d : Nat} (hd : d < n) {B : Nat} (hB : w.heap.size ≤ B) {x : AV} (hx : PlainX x)
    (hnewc : ∀ jj c, x.cells[jj]? = some c → ∃ u, w'.cell? ⟨B, jj, none⟩ = some u ∧ u.oneCell' = true ∧ ∀ v, c = .v v → u = v) (hblk : blockOk w' true B 0) {K : Post} (hk : K ((fr.kill (.sl d)).set d (.obj x)) F) :
    Good n fr F w G K (a.put (some d) (.pointer (some ⟨B, 0, none⟩))) w' := by
  have h1 := (h.kill (.sl d)).world hb
  have h2 := h1.set hd (x := .junk) (v := .pointer (some ⟨B, 0, none⟩)) (VR_junk rfl)
  have hoffall := kill_off fr F h.clean ⟨.sl d, [], 0⟩
  have hroot : rootsOf ((fr.kill (.sl d)).set d .junk :: F) F.length (.sl d) = some .junk := by
    rw [rootsOf_set]; simp [setRoot]
  have hrow : rowOf (rootsOf ((fr.kill (.sl d)).set d .junk :: F)) F.length (.sl d) [] = some [Sh.junk] := by
    simp [rowOf, hroot, AV.row, AV.sub, AV.cells, AV.sh]
  have hfresh : ∀ ow : Owner, ow.valid (rootsOf ((fr.kill (.sl d)).set d .junk :: F)) → ow.blk (G.setTm F.length d (.pointer (some ⟨B, 0, none⟩))) ≠ B := by
    intro ow how
    rw [rootsOf_set] at how
    have h3 := valid_setRoot_flat (x := .junk) (by intro c hc; simp [AV.cells] at hc; subst hc; exact ⟨rfl, rfl⟩) how (by simp)
    have h4 := (h.kill (.sl d)).ok.blk_lt h3
    have h5 : ow.blk (G.setTm F.length d (.pointer (some ⟨B, 0, none⟩))) = ow.blk G := by cases ow <;> rfl
    omega
  have hwr : (G.setTm F.length d (.pointer (some ⟨B, 0, none⟩))).wr F.length = true := h.wr0
  obtain ⟨G', hok, hcl, hw, htm, hun⟩ := OkNewObj h2.ok h2.clean (p2 := ⟨.sl d, [], 0⟩) hrow (by simp) (by intro s hs; simp at hs; subst hs; rfl) hwr x hx B hfresh hnewc
    (by simp [conc, inMem, Gh.setTm, flatV]) hblk (by
      intro f b path r x hr hx
      rw [rootsOf_set] at hr
      rcases rowOf_setRoot_flat (x := .junk) (by intro c hc; simp [AV.cells] at hc; subst hc; exact ⟨rfl, rfl⟩) hr with ⟨_, _, _, rfl⟩ | ⟨_, h6⟩
      · simp [AV.cells, AV.sh] at hx
      · exact hoffall f b path r x h6 hx)
  rw [setR_slot _ _ _ _ rfl] at hok hcl hun
  refine ⟨G', _, F, hk, rfl, ⟨hok, ?_, ?_, by simp [Act.put, h.size], h.wr.cong hw, h.defers, hcl⟩, ?_⟩
  · intro k
    rw [htm]
    exact h2.tm k
  · intro k y hy
    simp only [Fr.set, Al.get_set] at hy
    by_cases hkd : k = d
    · subst hkd
      simp only [if_true, Option.some.injEq] at hy
      subst hy
      have := h2.shape k .junk (by simp [Fr.set, Al.get_set])
      exact ⟨this.1, this.2⟩
    · simp only [hkd, if_false] at hy
      exact h2.shape k y (by simp [Fr.set, Al.get_set, hkd, hy])
  · refine ⟨hb.os, hb.tape, hb.output, hb.size, hw, ?_, ?_, Shp.cons _ _ _⟩
    · intro f k hf
      rw [htm]
      simp only [Gh.setTm]
      rw [if_neg (fun e => by omega)]
    · intro b hlt hu
      refine ⟨hb.block b hlt, hun b ?_ (by omega)⟩
      intro ow how hwro
      rw [rootsOf_set] at how
      have h3 := valid_setRoot_flat (x := .junk) (by intro c hc; simp [AV.cells] at hc; subst hc; exact ⟨rfl, rfl⟩) how (by simp)
      have h5 : ow.blk (G.setTm F.length d (.pointer (some ⟨B, 0, none⟩))) = ow.blk G := by cases ow <;> rfl
      rw [h5]
      exact hu ow ((Weak.kill fr F (.sl d)).valid h3) hwro

/-- Where an object in a slot lies. -/
theorem obj_addr (h : Rel w G n a fr F) {d : Nat} {x : AV} {B : Nat} (hd : fr.sl.get d = some (.obj x)) (hv : a.tmps.getD d undef = .pointer (some ⟨B, 0, none⟩)) : G.addr F.length (.sl d) [(0, 0)] = (B, 0) := by
  have hrow : rowOf (rootsOf (fr :: F)) F.length (.sl d) [] = some [Sh.obj] := by simp [rowOf, rootsOf, Fr.root, hd, AV.row, AV.sub, AV.cells, AV.sh]
  obtain ⟨u, hu, hcs⟩ := h.ok.cell _ _ _ _ 0 _ hrow rfl
  simp only [CS] at hcs
  obtain ⟨h1, h2, _⟩ := hcs
  simp only [conc, inMem, Bool.false_eq_true, if_false, h.tm, hv] at hu
  simp only [flatV, List.getElem?_cons_zero, Option.some.injEq] at hu
  rw [← hu] at h2
  simp only [Value.pointer.injEq, Option.some.injEq, Addr.mk.injEq] at h2
  simp only [Gh.addr, h1, ← h2.1]
  simp

def boxMv (s d : Nat) (j : Nat) : Mv := ⟨0, ⟨.sl s, [], j⟩, 0, ⟨.sl d, [(0, 0)], j⟩⟩

/-- &T{..}: an object with what a slot holds. -/
theorem AOp_box {o : Oper} {t : TypeId} {s d : Nat} {b : Bool} {K : Post} (hop : o.op = .box t (.tmp s)) (hd : o.dst = some d) (hdn : d < n) (hsd : s ≠ d) {x0 : AV} (hx0 : fr.sl.get s = some x0) (hnt : notTup x0 = true)
    {idx : List Nat} (hix : idx.all (fun j => decide (j < x0.cells.length)) = true) {fr' : Fr} {F' : List Fr} (hmv : mvRun (idx.map (boxMv s d)) ((fr.kill (.sl d)).set d (.obj (skelE x0)) :: F) = some (fr' :: F')) (hk : K fr' F') : AOpC b P n o fr F K := by
  intro w G a h
  obtain ⟨hsh, hones⟩ := h.shape s x0 hx0
  have hcells : (a.tmps.getD s undef).cells.toList = flatV (a.tmps.getD s undef) := by
    cases hx1 : x0.one with
    | true =>
      have hu : (a.tmps.getD s undef).oneCell' = true := by cases x0 <;> simp_all [Shape, AV.one]
      rw [cells_of_one hu, flatV_of_one hu]
    | false =>
      cases x0 <;> simp [AV.one] at hx1
      · obtain ⟨us, hus, _⟩ := hsh; rw [hus]; rfl
      · simp [notTup] at hnt
  have hlen := hsh.len
  have hexec : (execOp a.eval o).run P w = .ok (.value (.pointer (some ⟨w.heap.size, 0, none⟩))) (w.alloc (.cells (a.tmps.getD s undef).cells t)) := by
    unfold execOp
    simp only [hop]
    rw [show a.eval (.tmp s) = a.tmps.getD s undef from rfl]
    simp [Instr.box, newVar, newRow]
  simp only [Oper.wp, hexec, Oper.upon, hd]
  have hbel : Below w.heap.size w (w.alloc (.cells (a.tmps.getD s undef).cells t)) := (Below.refl _ _).alloc (Nat.le_refl _) _
  have hcell : ∀ j v, (flatV (a.tmps.getD s undef))[j]? = some v → (w.alloc (.cells (a.tmps.getD s undef).cells t)).cell? ⟨w.heap.size, j, none⟩ = some v := by
    intro j v hv
    rw [cell_alloc_new, ← Array.getElem?_toList, hcells]
    exact hv
  have hrow0 : rowOf (rootsOf (fr :: F)) F.length (.sl s) [] = some (x0.cells.map AV.sh) := by simp [rowOf, rootsOf, Fr.root, hx0, AV.row, AV.sub]
  obtain ⟨G1, fr1, F1, ⟨hfr1, hF1⟩, hl1, hrel1, htr1⟩ := h.newObj (w' := w.alloc (.cells (a.tmps.getD s undef).cells t)) hbel hdn (B := w.heap.size) (Nat.le_refl _) (x := skelE x0)
    (by
      intro c hc
      rw [skelE_cells, List.mem_map] at hc
      obtain ⟨c0, _, rfl⟩ := hc
      cases c0 <;> first | (left; rfl) | (right; exact ⟨_, rfl⟩))
    (by
      intro jj c hc
      rw [skelE_cells, List.getElem?_map, Option.map_eq_some_iff] at hc
      obtain ⟨c0, hc0, rfl⟩ := hc
      have hlt : jj < (flatV (a.tmps.getD s undef)).length := by rw [hlen]; exact (List.getElem?_eq_some_iff.1 hc0).1
      have hv := List.getElem?_eq_getElem hlt
      refine ⟨_, hcell _ _ hv, hones _ (List.mem_of_getElem? hv), ?_⟩
      intro v e
      cases c0 <;> simp [skelV] at e
      subst e
      obtain ⟨u, hu, hcs⟩ := h.ok.cell _ _ _ _ jj (.val _) hrow0 (by simp [hc0, AV.sh]; rfl)
      simp only [CS] at hcs
      subst hcs
      simp only [conc, inMem, Bool.false_eq_true, if_false, h.tm, hv, Option.some.injEq] at hu
      exact hu)
    (blockOk_alloc (Nat.zero_le _)) (K := fun fr2 F2 => fr2 = (fr.kill (.sl d)).set d (.obj (skelE x0)) ∧ F2 = F) ⟨rfl, rfl⟩
  rw [hfr1, hF1] at hrel1 htr1
  have haddr := obj_addr hrel1 (d := d) (x := skelE x0) (by simp [Fr.set, Al.get_set]) (getD_self (by rw [h.size]; exact hdn))
  obtain ⟨G', g1, g2, g3⟩ := Rel.moves _ hrel1 hmv (by
    intro m hm
    rw [List.mem_map] at hm
    obtain ⟨j, hx, rfl⟩ := hm
    have hj := List.all_eq_true.1 hix _ hx
    simp only [decide_eq_true_eq] at hj
    refine ⟨Nat.zero_le _, Nat.zero_le _, ?_⟩
    have hv := List.getElem?_eq_getElem (show j < (flatV (a.tmps.getD s undef)).length by rw [hlen]; exact hj)
    simp only [boxMv, Nat.sub_zero]
    have c1 : conc (w.alloc (.cells (a.tmps.getD s undef).cells t)) G1 F.length (.sl d) [(0, 0)] j = some (flatV (a.tmps.getD s undef))[j] := by
      simp only [conc, inMem_cons, if_true, haddr, Nat.zero_add]
      exact hcell _ _ hv
    have c2 : conc (w.alloc (.cells (a.tmps.getD s undef).cells t)) G1 F.length (.sl s) [] j = some (flatV (a.tmps.getD s undef))[j] := by
      simp only [conc, inMem, Bool.false_eq_true, if_false, hrel1.tm]
      rw [getD_put _ _ _ _ (by rw [h.size]; exact hdn), if_neg hsd]
      exact hv
    rw [c1, c2])
  exact ⟨fun _ => hbel, G', fr', F', hk, g2, g1, htr1.trans g3⟩

/-- A new variable with its zero value. -/
theorem AOp_alloc {o : Oper} {t : TypeId} {d : Nat} {b : Bool} {K : Post} {z : Value} (hop : o.op = .alloc t) (hz : (P.info? t).bind (·.zero) = some z) (hpl : plainZero z = true) (hd : o.dst = some d) (hdn : d < n) (hk : K ((fr.kill (.sl d)).set d (.obj (zeroAV z))) F) : AOpC b P n o fr F K := by
  intro w G a h
  simp only [plainZero, Bool.and_eq_true] at hpl
  have hnt : ∀ vs, z ≠ .tuple vs := by intro vs e; subst e; simp at hpl
  have hones : ∀ c ∈ z.cells.toList, c.oneCell' = true := fun c hc => by simpa using List.all_eq_true.1 hpl.2 c hc
  have hexec : (execOp a.eval o).run P w = .ok (.value (.pointer (some ⟨w.heap.size, 0, none⟩))) (w.alloc (.cells z.cells t)) := by
    unfold execOp
    simp only [Option.bind_eq_some_iff] at hz
    obtain ⟨i, hi, hz⟩ := hz
    simp [hop, Instr.alloc, zeroValue, typeInfo, hi, hz, newVar, newRow]
  simp only [Oper.wp, hexec, Oper.upon, hd]
  have hbel : Below w.heap.size w (w.alloc (.cells z.cells t)) := (Below.refl _ _).alloc (Nat.le_refl _) _
  refine ⟨fun _ => hbel, h.newObj hbel hdn (B := w.heap.size) (Nat.le_refl _) (x := zeroAV z) ?_ ?_ (blockOk_alloc (Nat.zero_le _)) hk⟩
  · intro c hc
    rw [zeroAV_cells z hnt, List.mem_map] at hc
    obtain ⟨v, _, rfl⟩ := hc
    exact Or.inr ⟨v, rfl⟩
  · intro jj c hc
    rw [zeroAV_cells z hnt, List.getElem?_map, Option.map_eq_some_iff] at hc
    obtain ⟨v, hv, rfl⟩ := hc
    refine ⟨v, by rw [cell_alloc_new]; simpa using hv, hones v (List.mem_of_getElem? hv), fun v' e => by simpa using e⟩

end
end Go.Proofs.Ythlehngbadianaa.Ai
/- append of elements that own things, onto nil. -/
set_option linter.unusedVariables false
set_option linter.unusedSimpArgs false
namespace Go.Proofs.Ythlehngbadianaa.Ai
open Go Go.RowKit

section
variable {P : Program} {n : Nat} {fr : Fr} {F : List Fr}

theorem AOp_appO_nil {o : Oper} {x : Operand} {ox : Opd} {t ty e : TypeId} {z : Value} {es bytes d s : Nat} {K : Post} (hI : AppInfo P o x (.tmp s) t ty e z es bytes false) (hox : opd x = some ox) (hd : o.dst = some d) (hdn : d < n)
    {vx : AV} (hx : fr.ev ox = some vx) (hnil : nilsl vx = true) (hsd : s ≠ d) {ys : List AV} (hslot : fr.sl.get s = some (.own es ys)) (hys0 : ys ≠ []) (hb : ys.length * bytes ≤ 140737488355328) (h63 : ys.length ≤ 9223372036854775807)
    {idx : List (Nat × Nat)} (hix : idx.all (fun x => decide (x.1 < ys.length) && decide (x.2 < es)) = true) {fr2 : Fr} {F2 : List Fr}
    (hmv : mvRun (idx.map (appMv s d 0)) ((fr.kill (.sl d)).set d (.own es (ys.map skelE)) :: F) = some (fr2 :: F2)) (hk : K fr2 F2) : AOp P n o fr F K := by
  intro w G a h
  obtain ⟨i, hi1, hi2, hi3, hi4⟩ := hI.info.parts
  have hys : fr.ev (.s s) = some (.sl ⟨.sl s, [], 0⟩ es 0 ys.length) := by simp [Fr.ev, hslot, borrow, borrow1]
  have hrd : rdS es (fr :: F) (.sl ⟨.sl s, [], 0⟩ es 0 ys.length) = some ys := by
    simp [rdS, nilsl, slcell, Fr.root, hslot, AV.cellIn, AV.sub, AV.cells]
  obtain ⟨vss, hsrc, hvl, hyes, hles, hones, hplain, hmem⟩ := h.srcS (P := P) hys hrd (by have := hI.kind; simpa using this) hI.info.pos
  obtain ⟨Bs, os, cs, hvs, hBs⟩ : ∃ Bs os cs, a.tmps.getD s undef = .slice (some ⟨Bs, os, none⟩) ys.length cs ∧ Bs = (G.h F.length (.sl s) [] 0).1 := by
    obtain ⟨_, _, _, _, _, ao', cap', hu', _⟩ := h.slcell hys (show slcell (fr :: F) (.sl ⟨.sl s, [], 0⟩ es 0 ys.length) = some (ys, ⟨.sl s, [], 0⟩, es, 0, ys.length, 0) by simp [slcell, Fr.root, hslot, AV.cellIn, AV.sub, AV.cells])
    exact ⟨_, ao', cap', hu', rfl⟩
  have hmem' := hmem Bs os ys.length cs hvs
  change Src P es ty (a.eval (.tmp s)) ys.length vss.flatten w at hsrc
  have hsrc' : Src P i.size ty (a.eval (.tmp s)) ys.length vss.flatten w := by rw [hi3]; exact hsrc
  have hone : vx.one = true := by cases vx <;> simp_all [nilsl, AV.one]
  have hu := nilsl_sound _ _ _ hnil ((VR_one hone).1 (h.ev hx)).2
  rw [opd_to hox] at hu
  have hlen : 0 < ys.length := List.length_pos_iff.2 hys0
  have hr := run_append_grow_src w t ty o.type e i z hI.info.under hi1 hi2 none 0 0 [] (by simp [Builtin.firstCells]) (a.eval (.tmp s)) ys.length vss.flatten hsrc' (by omega) (by omega) (by rw [hi4, Nat.zero_add]; exact growslice_fits (by omega) hb)
  rw [← hu] at hr
  simp only [Oper.wp, hI.exec hr, Oper.upon, hd, List.nil_append, Nat.zero_add]
  have hge := grownCap_ge w ys.length 0 e
  have hbel := below_drew_alloc w (.cells (vss.flatten.toArray ++ Builtin.zeroCells z.cells (grownCap w ys.length 0 e - ys.length)) e)
  have hcd1 : ∀ k v, vss.flatten[k]? = some v → (w.drew.alloc (.cells (vss.flatten.toArray ++ Builtin.zeroCells z.cells (grownCap w ys.length 0 e - ys.length)) e)).cell? ⟨w.heap.size, 0 + k, none⟩ = some v := by
    intro k v hv
    have := grown_row (W := w.drew) (e := e) (es := es) [] vss.flatten (Builtin.zeroCells z.cells (grownCap w ys.length 0 e - ys.length)) 0 k v (by simpa using hv)
    simpa using this
  obtain ⟨hna, hpn⟩ := newAt_skel (W := w.drew.alloc (.cells (vss.flatten.toArray ++ Builtin.zeroCells z.cells (grownCap w ys.length 0 e - ys.length)) e)) hI.info.pos hvl hyes hles hones hplain (B := w.heap.size) (o := 0) hcd1
  have hblk : blockOk (w.drew.alloc (.cells (vss.flatten.toArray ++ Builtin.zeroCells z.cells (grownCap w ys.length 0 e - ys.length)) e)) true w.heap.size (0 + grownCap w ys.length 0 e * es) := by
    refine blockOk_alloc (W := w.drew) ?_
    simp only [Array.size_append, List.size_toArray, flatten_len vss hles, hvl, Builtin.zeroCells, Array.size_map, Array.size_range, hI.info.cells, Nat.zero_add]
    rw [← Nat.add_mul]
    exact Nat.mul_le_mul_right _ (by omega)
  have hnew := h.newList (K := fun fr' F' => fr' = (fr.kill (.sl d)).set d (.own es (ys.map skelE)) ∧ F' = F) hbel hdn (B := w.heap.size) (o := 0) (cap := grownCap w ys.length 0 e) (Nat.le_refl _) hI.info.pos hpn hna (by rw [List.length_map]; exact hge) hblk ⟨rfl, rfl⟩
  rw [List.length_map] at hnew
  obtain ⟨G', fr', F', ⟨rfl, rfl⟩, _, hrel, htr⟩ := hnew
  have hslot' : ((fr.kill (.sl d)).set d (.own es (ys.map skelE))).sl.get s = some (.own es ys) := by
    simp [Fr.set, Al.get_set, hsd, Fr.kill, Al.get_mapv, hslot, killV, killC, hits]
  obtain ⟨G2, m1, m2, m3⟩ := app_moves hrel (s := s) (d := d) (len := 0) hI.info.pos hvl hles hslot' (zs := ys.map skelE) (by simp [Fr.set, Al.get_set]) (Bs := Bs) (os := os) (Bd := w.heap.size) (od := 0)
    (by rw [getD_put _ _ _ _ (by rw [h.size]; exact hdn), if_neg hsd]; exact hvs) (getD_self (by rw [h.size]; exact hdn))
    (fun k v hv => pw_cell hbel (hmem' k v hv)) (fun k v hv => by rw [Nat.zero_mul, Nat.add_zero]; exact hcd1 k v hv) hix hmv
  exact ⟨G2, fr2, F2, hk, m2, m1, htr.trans m3⟩

end
end Go.Proofs.Ythlehngbadianaa.Ai
/- Compact operations: what an operation is compiled to, what it does to the state, and that it does so. -/
set_option linter.unusedVariables false
set_option linter.unusedSimpArgs false
namespace Go.Proofs.Ythlehngbadianaa.Ai
open Go Go.RowKit

inductive CK where
  | val (e : VE)
  | mk (l c : Opd) (z : Value) (es bytes : Nat)
  | lit (es : Nat) (os : List Opd)
  | app (es bytes : Nat) (isStr : Bool) (x y : Opd)
  | store (m : Nat) (x : Opd) (t : Nat)
  | storeC (x : Opd) (v : Value)
  | box (s : Nat)
  | alloc (z : Value)
  | call (f : FuncId) (args : List Opd)

def CK.isStore : CK → Bool
  | .store _ _ _ => true
  | .storeC _ _ => true
  | _ => false
def CK.calm : CK → Bool
  | .val _ => true
  | .mk _ _ _ _ _ => true
  | .lit _ _ => true
  | .box _ => true
  | .alloc _ => true
  | _ => false

def compApp (P : Program) (args : List Operand) (ats : List TypeId) : Option CK :=
  match args, ats with
  | [x, y], [t, ty] =>
    match opd x, opd y, mkInfo P t, P.underlying ty with
    | some ox, some oy, some (_, _, es, b), some .string => some (.app es b true ox oy)
    | some ox, some oy, some (_, _, es, b), some (.slice _) => some (.app es b false ox oy)
    | _, _, _, _ => none
  | _, _ => none

def compCall (P : Program) (f : FuncId) (args : List Operand) : Option CK :=
  match P.funcs[f]?, args.mapM opd with
  | some fn, some os => if (fn.name == "runtime.NumGoroutine") = false ∧ fn.body.isNone = false then some (.call f os) else none
  | _, _ => none

def compLit (P : Program) (t : TypeId) (len : Nat) (parts : List (Nat × Operand)) : Option CK :=
  match mkInfo P t, (parts.map (·.2)).mapM opd with
  | some (_, _, es, _), some os => if parts.map (·.1) = List.range len ∧ 0 < len ∧ len * es ≤ 16777216 then some (.lit es os) else none
  | _, _ => none

def compK (P : Program) (o : Op) : Option CK :=
  match o with
  | .makeSlice t l c =>
    match opd l, opd c, mkInfo P t with
    | some ol, some oc, some (_, z, es, b) => some (.mk ol oc z es b)
    | _, _, _ => none
  | .buildSlice t len parts => compLit P t len parts.toList
  | .call { callee := .builtin .append, args, argTypes } => compApp P args.toList argTypes.toList
  | .call { callee := .value (.func f), args, argTypes } => compCall P f args.toList
  | .store ty x (.tmp t) =>
    match opd x, sizeT P ty with
    | some ox, some m => some (.store m ox t)
    | _, _ => none
  | .store ty x (.const v) =>
    match opd x, sizeT P ty with
    | some ox, some 1 => if v.oneCell' = true then some (.storeC ox v) else none
    | _, _ => none
  | .box t (.tmp s) => some (.box s)
  | .alloc t =>
    match (P.info? t).bind (·.zero) with
    | some z => if plainZero z = true then some (.alloc z) else none
    | none => none
  | op => (compV P op).map .val

/-- An operation: its guard, its slot, what it is; the slots whose things its slot takes over; the slots that are forgotten behind it. -/
structure CO where
  g : Option (Nat × Bool)
  d : Nat
  k : CK
  c : List Nat
  x : List Nat

/-- The state behind. -/
abbrev St := Option (Fr × List Fr)
def uncons : List Fr → St
  | fr :: F => some (fr, F)
  | [] => none
theorem uncons_eq {S : List Fr} {fr : Fr} {F : List Fr} (h : uncons S = some (fr, F)) : S = fr :: F := by
  cases S with
  | nil => simp [uncons] at h
  | cons a l => simp [uncons] at h; obtain ⟨rfl, rfl⟩ := h; rfl
def stV (d : Nat) (fr : Fr) (F : List Fr) : Option AV → St
  | some z => some (fr.set d z, F)
  | none => none

/-- A reference and how far out it leads. -/
def asRef : AV → Option (Nat × AV)
  | .up x => match asRef x with
    | some (k, y) => some (k + 1, y)
    | none => none
  | .sl p es off len => some (0, .sl p es off len)
  | .ptr p => some (0, .ptr p)
  | _ => none

theorem asRef_spec : ∀ (x : AV) (k : Nat) (y : AV), asRef x = some (k, y) → x = upN k y
  | .up x, k, y, h => by
    simp only [asRef] at h
    split at h
    · rename_i k' y' he
      simp only [Option.some.injEq, Prod.mk.injEq] at h
      obtain ⟨rfl, rfl⟩ := h
      simp only [upN, ← asRef_spec x k' y' he]
    · simp at h
  | .sl p es off len, k, y, h => by simp [asRef] at h; obtain ⟨rfl, rfl⟩ := h; rfl
  | .ptr p, k, y, h => by simp [asRef] at h; obtain ⟨rfl, rfl⟩ := h; rfl
  | .v _, _, _, h => by simp [asRef] at h
  | .junk, _, _, h => by simp [asRef] at h
  | .agg _, _, _, h => by simp [asRef] at h
  | .tup _ _, _, _, h => by simp [asRef] at h
  | .own _ _, _, _, h => by simp [asRef] at h
  | .obj _, _, _, h => by simp [asRef] at h
  | .sa _ _ _ _, _, _, h => by simp [asRef] at h
  | .fn _ _, _, _, h => by simp [asRef] at h
  | .lapp _ _ _ _ _, _, _, h => by simp [asRef] at h

def rwAt (fr : Fr) (F : List Fr) (k : Nat) : Bool := ((fr :: F).map Fr.rw)[k]? == some true
def baseIs (k : Nat) (b : Base) (t : Nat) : Bool := decide (k = 0) && decide (b = .sl t)

/-- A slot's cell that refers to a list or an object takes it over, if it can. -/
def claimR (t j : Nat) (fr : Fr) (F : List Fr) (k : Nat) : AV → St
  | .sl p es off len =>
    if baseIs k p.base t = false ∧ rwAt fr F k = true then
      match getp (fr.kill (.sl t) :: F) k p with
      | some (.own es' xs) => if es' = es ∧ off + len ≤ xs.length then uncons (setp (setp (fr.kill (.sl t) :: F) k p .junk) 0 ⟨.sl t, [], j⟩ (.own es ((xs.drop off).take len))) else some (fr, F)
      | _ => some (fr, F)
    else some (fr, F)
  | .ptr ⟨b, (jj, 0) :: path, 0⟩ =>
    if baseIs k b t = false ∧ rwAt fr F k = true then
      match getp (fr.kill (.sl t) :: F) k ⟨b, path, jj⟩ with
      | some (.obj x) => if x.cells.isEmpty = false then uncons (setp (setp (fr.kill (.sl t) :: F) k ⟨b, path, jj⟩ .junk) 0 ⟨.sl t, [], j⟩ (.obj x)) else some (fr, F)
      | _ => some (fr, F)
    else some (fr, F)
  | _ => some (fr, F)

theorem Ghost.refl (fr : Fr) (F : List Fr) : Ghost fr F fr F := fun w G n a hr => ⟨G, hr, Tr.refl _ _ _ _, rfl⟩

theorem baseIs_spec {k : Nat} {b : Base} {t : Nat} (h : baseIs k b t = false) : ¬ (k = 0 ∧ b = .sl t) := by
  simp only [baseIs, Bool.and_eq_false_iff, decide_eq_false_iff_not] at h
  rintro ⟨h1, h2⟩
  exact h.elim (fun h => h h1) (fun h => h h2)

theorem hits_upN {b : Base} : ∀ (k : Nat) (y : AV), ¬ k = 0 → hits b (upN k y) = false
  | 0, y, h => absurd rfl h
  | k + 1, y, _ => by simp [upN, hits]

/-- The cell stays when a slot's own references are forgotten. -/
theorem kill_cell {fr : Fr} {t j k : Nat} {x0 : AV} {y : AV} (hx0 : fr.sl.get t = some x0) (hc : x0.cells[j]? = some (upN k y)) (hne : hits (.sl t) (upN k y) = false) :
    ∃ x1, (fr.kill (.sl t)).sl.get t = some x1 ∧ x1.cells[j]? = some (upN k y) := by
  refine ⟨killV (.sl t) x0, by simp [Fr.kill, Al.get_mapv, hx0], ?_⟩
  rw [killV_cells, List.getElem?_map, hc]
  simp [killC, hne]

theorem claimR_ghost {t j k : Nat} {fr : Fr} {F : List Fr} {x0 y : AV} (hx0 : fr.sl.get t = some x0) (hc : x0.cells[j]? = some (upN k y)) {fr' : Fr} {F' : List Fr} (h : claimR t j fr F k y = some (fr', F')) : Ghost fr F fr' F' := by
  unfold claimR at h
  split at h
  · rename_i p es off len
    split at h
    · rename_i hh
      have hne := baseIs_spec hh.1
      have hhit : hits (.sl t) (upN k (.sl p es off len)) = false := by
        by_cases hk : k = 0
        · subst hk
          simp only [upN, hits, decide_eq_false_iff_not]
          exact fun e => hne ⟨rfl, e⟩
        · exact hits_upN _ _ hk
      obtain ⟨x1, h1, h2⟩ := kill_cell hx0 hc hhit
      split at h
      · rename_i es' xs hg
        split at h
        · rename_i hle
          obtain ⟨rfl, hle⟩ := hle
          exact Ghost.claimL h1 h2 hg hle (by simpa [rwAt] using hh.2) hne (uncons_eq h)
        · simp at h; obtain ⟨rfl, rfl⟩ := h; exact Ghost.refl _ _
      · simp at h; obtain ⟨rfl, rfl⟩ := h; exact Ghost.refl _ _
    · simp at h; obtain ⟨rfl, rfl⟩ := h; exact Ghost.refl _ _
  · rename_i b jj path
    split at h
    · rename_i hh
      have hne := baseIs_spec hh.1
      have hhit : hits (.sl t) (upN k (.ptr ⟨b, (jj, 0) :: path, 0⟩)) = false := by
        by_cases hk : k = 0
        · subst hk
          simp only [upN, hits, decide_eq_false_iff_not]
          exact fun e => hne ⟨rfl, e⟩
        · exact hits_upN _ _ hk
      obtain ⟨x1, h1, h2⟩ := kill_cell hx0 hc hhit
      split at h
      · rename_i x hg
        split at h
        · rename_i hle
          exact Ghost.claimO h1 h2 hg (by intro e; simp [e] at hle) (by simpa [rwAt] using hh.2) hne (uncons_eq h)
        · simp at h; obtain ⟨rfl, rfl⟩ := h; exact Ghost.refl _ _
      · simp at h; obtain ⟨rfl, rfl⟩ := h; exact Ghost.refl _ _
    · simp at h; obtain ⟨rfl, rfl⟩ := h; exact Ghost.refl _ _
  · simp at h; obtain ⟨rfl, rfl⟩ := h; exact Ghost.refl _ _

/-- Which references are taken over: all; those to the frame itself; those to a slot of a list. -/
inductive Sel where
  | all
  | loc
  | from (l : List Nat)
def isFrom (l : List Nat) : AV → Bool
  | .sl ⟨.sl t, [], _⟩ _ _ _ => l.contains t
  | .ptr ⟨.sl t, [_], _⟩ => l.contains t
  | _ => false
def Sel.ok : Sel → Nat → AV → Bool
  | .all, _, _ => true
  | .loc, k, _ => k == 0
  | .from l, k, y => k == 0 && isFrom l y

def claimY (e : Sel) (t j : Nat) (fr : Fr) (F : List Fr) : Option (Nat × AV) → St
  | some (k, y) => if e.ok k y = true then claimR t j fr F k y else some (fr, F)
  | none => some (fr, F)
def claimA (e : Sel) (t j : Nat) (fr : Fr) (F : List Fr) : Option AV → St
  | some c => claimY e t j fr F (asRef c)
  | none => some (fr, F)
def claimC (e : Sel) (t j : Nat) (fr : Fr) (F : List Fr) : St := claimA e t j fr F ((fr.sl.get t).bind fun x => x.cells[j]?)
theorem claimC_ghost {e : Sel} {t j : Nat} {fr : Fr} {F : List Fr} {fr' : Fr} {F' : List Fr} (h : claimC e t j fr F = some (fr', F')) : Ghost fr F fr' F' := by
  unfold claimC at h
  cases hx : (fr.sl.get t).bind fun x => x.cells[j]? with
  | none => rw [hx] at h; simp [claimA] at h; obtain ⟨rfl, rfl⟩ := h; exact Ghost.refl _ _
  | some c =>
    rw [hx] at h
    simp only [claimA] at h
    cases hr : asRef c with
    | none => rw [hr] at h; simp [claimY] at h; obtain ⟨rfl, rfl⟩ := h; exact Ghost.refl _ _
    | some ky =>
      obtain ⟨k, y⟩ := ky
      rw [hr] at h
      simp only [claimY] at h
      split at h
      · rw [asRef_spec _ _ _ hr] at hx
        rw [Option.bind_eq_some_iff] at hx
        obtain ⟨x0, h1, h2⟩ := hx
        exact claimR_ghost h1 h2 h
      · simp at h; obtain ⟨rfl, rfl⟩ := h; exact Ghost.refl _ _

def claimL (e : Sel) (t : Nat) : List Nat → St → St
  | _, none => none
  | [], some s => some s
  | j :: l, some (fr, F) => claimL e t l (claimC e t j fr F)
theorem claimL_ghost {e : Sel} {t : Nat} : ∀ (l : List Nat) {fr : Fr} {F : List Fr} {fr' : Fr} {F' : List Fr}, claimL e t l (some (fr, F)) = some (fr', F') → Ghost fr F fr' F'
  | [], fr, F, fr', F', h => by simp [claimL] at h; obtain ⟨rfl, rfl⟩ := h; exact Ghost.refl _ _
  | j :: l, fr, F, fr', F', h => by
    simp only [claimL] at h
    cases hc : claimC e t j fr F with
    | none => rw [hc] at h; cases l <;> simp [claimL] at h
    | some s =>
      rw [hc] at h
      exact (claimC_ghost hc).trans (claimL_ghost l h)
/-- The cells of a value that are references. -/
def refJ : Nat → List AV → List Nat
  | _, [] => []
  | j, c :: cs => if (asRef c).isSome then j :: refJ (j + 1) cs else refJ (j + 1) cs
def refsOf : Option AV → List Nat
  | some x => refJ 0 x.cells
  | none => []
def claimT (e : Sel) (t : Nat) (fr : Fr) (F : List Fr) : St := claimL e t (refsOf (fr.sl.get t)) (some (fr, F))
def claimTs (e : Sel) : List Nat → St → St
  | _, none => none
  | [], some s => some s
  | t :: ts, some (fr, F) => claimTs e ts (claimT e t fr F)
theorem claimTs_ghost {e : Sel} : ∀ (l : List Nat) {fr : Fr} {F : List Fr} {fr' : Fr} {F' : List Fr}, claimTs e l (some (fr, F)) = some (fr', F') → Ghost fr F fr' F'
  | [], fr, F, fr', F', h => by simp [claimTs] at h; obtain ⟨rfl, rfl⟩ := h; exact Ghost.refl _ _
  | j :: l, fr, F, fr', F', h => by
    simp only [claimTs] at h
    cases hc : claimT e j fr F with
    | none => rw [hc] at h; cases l <;> simp [claimTs] at h
    | some s =>
      rw [hc] at h
      exact (claimL_ghost _ hc).trans (claimTs_ghost l h)

end Go.Proofs.Ythlehngbadianaa.Ai
/- Compact operations: the step. -/
set_option linter.unusedVariables false
set_option linter.unusedSimpArgs false
namespace Go.Proofs.Ythlehngbadianaa.Ai
open Go Go.RowKit

def evL (fr : Fr) : List Opd → Option (List AV)
  | [] => some []
  | x :: l => match fr.ev x with
    | some z => match evL fr l with
      | some r => some (z :: r)
      | none => none
    | none => none
theorem evL_mapM (fr : Fr) : ∀ l : List Opd, evL fr l = l.mapM fr.ev
  | [] => rfl
  | x :: l => by
    simp only [evL, List.mapM_cons, ← evL_mapM fr l]
    cases fr.ev x <;> simp
    cases evL fr l <;> rfl
theorem evs_evL (fr : Fr) : ∀ (l : List Operand) (os : List Opd), l.mapM opd = some os → evs fr l = evL fr os
  | [], os, h => by simp at h; subst h; rfl
  | x :: l, os, h => by
    simp only [List.mapM_cons, Option.pure_def, Option.bind_eq_bind, Option.bind_eq_some_iff, Option.some.injEq] at h
    obtain ⟨o, ho, r, hr, rfl⟩ := h
    simp only [evs, ho, evL, evs_evL fr l r hr]
    cases fr.ev o <;> simp
    cases evL fr r <;> rfl

def isV : AV → Bool
  | .v _ => true
  | _ => false
/-- es cells, all plain. -/
def plainX (es : Nat) (x : AV) : Bool := notTup x && x.cells.all isV && x.cells.length == es
def plainL (es : Nat) (xs : List AV) : Bool := xs.all (plainX es)
theorem plainC_isV : ∀ (cs : List AV), cs.all isV = true → ∃ vs, cs.mapM plainC = some vs ∧ vs.length = cs.length
  | [], _ => ⟨[], rfl, rfl⟩
  | c :: cs, h => by
    simp only [List.all_cons, Bool.and_eq_true] at h
    obtain ⟨vs, h1, h2⟩ := plainC_isV cs h.2
    cases c <;> simp [isV] at h
    rename_i x
    exact ⟨x :: vs, by simp [plainC, h1], by simp [h2]⟩
theorem plainE_of {es : Nat} {x : AV} (h : plainX es x = true) : ∃ vs, plainE es x = some vs := by
  simp only [plainX, Bool.and_eq_true, beq_iff_eq] at h
  obtain ⟨vs, h1, h2⟩ := plainC_isV _ h.1.2
  refine ⟨vs, ?_⟩
  cases x <;> simp [notTup] at h <;> simp only [plainE, h1, Option.bind_some] <;> rw [if_pos (by rw [h2]; exact h.2)]
theorem plainL_of {es : Nat} : ∀ {xs : List AV}, plainL es xs = true → ∃ vss, xs.mapM (plainE es) = some vss
  | [], _ => ⟨[], rfl⟩
  | x :: xs, h => by
    simp only [plainL, List.all_cons, Bool.and_eq_true] at h
    obtain ⟨vs, h1⟩ := plainE_of h.1
    obtain ⟨vss, h2⟩ := plainL_of (xs := xs) h.2
    exact ⟨vs :: vss, by simp [h1, h2]⟩

/-- The cells of a value that own something. -/
def ownJ : Nat → List AV → List Nat
  | _, [] => []
  | j, c :: cs => if c.owns then j :: ownJ (j + 1) cs else ownJ (j + 1) cs
theorem ownJ_lt : ∀ (cs : List AV) (j x : Nat), x ∈ ownJ j cs → x < j + cs.length
  | [], j, x, h => by simp [ownJ] at h
  | c :: cs, j, x, h => by
    simp only [ownJ] at h
    split at h
    · simp only [List.mem_cons] at h
      rcases h with rfl | h
      · simp
      · have := ownJ_lt cs (j + 1) x h; simp; omega
    · have := ownJ_lt cs (j + 1) x h; simp; omega
def litIdx (fr : Fr) : Nat → List Opd → List (Nat × Nat × Nat)
  | _, [] => []
  | i, .s t :: l => (match fr.sl.get t with
    | some x => (ownJ 0 x.cells).map fun j => (t, i, j)
    | none => []) ++ litIdx fr (i + 1) l
  | i, _ :: l => litIdx fr (i + 1) l
def appIdx : Nat → List AV → List (Nat × Nat)
  | _, [] => []
  | i, x :: l => (ownJ 0 x.cells).map (fun j => (i, j)) ++ appIdx (i + 1) l

def litFin (d es : Nat) (fr : Fr) (F : List Fr) (os : List Opd) (xs : List AV) : St :=
  if plainL es xs = true then some ((fr.kill (.sl d)).set d (.own es xs), F)
  else if xs.all (okElem es) = true ∧ (litIdx fr 0 os).all (fun x => decide (x.1 ≠ d) && decide (x.2.2 < es)) = true then
    (mvRun ((litIdx fr 0 os).map (litMv d)) ((fr.kill (.sl d)).set d (.own es (xs.map skelE)) :: F)).bind uncons
  else none
def tmpsOf : List Opd → List Nat
  | [] => []
  | .s t :: l => t :: tmpsOf l
  | _ :: l => tmpsOf l

def mkFin (d : Nat) (z : Value) (es bytes : Nat) (fr : Fr) (F : List Fr) : Option Int → Option Int → St
  | some lv, some cv => if 0 ≤ lv ∧ lv ≤ cv ∧ (bytes : Int) * cv ≤ 281474976710656 ∧ cv ≤ 9223372036854775807 then some ((fr.kill (.sl d)).set d (.own es (List.replicate lv.toNat (zeroAV z))), F) else none
  | _, _ => none


/-- The list that a slot owns, of elements of es cells. -/
def ownSlot (fr : Fr) (es : Nat) : Opd → Option (Nat × List AV)
  | .s s => match fr.sl.get s with
    | some (.own es' ys) => if es' = es then some (s, ys) else none
    | _ => none
  | _ => none
theorem ownSlot_spec {fr : Fr} {es : Nat} {y : Opd} {s : Nat} {ys : List AV} (h : ownSlot fr es y = some (s, ys)) : y = .s s ∧ fr.sl.get s = some (.own es ys) := by
  unfold ownSlot at h
  split at h
  · split at h
    · rename_i es' ys' hg
      split at h
      · rename_i he
        simp only [Option.some.injEq, Prod.mk.injEq] at h
        obtain ⟨rfl, rfl⟩ := h
        subst he
        exact ⟨rfl, hg⟩
      · simp at h
    · simp at h
  · simp at h

def idxOk (es : Nat) (ys : List AV) : Bool := (appIdx 0 ys).all (fun x => decide (x.1 < ys.length) && decide (x.2 < es))

def appNil (d es bytes : Nat) (fr : Fr) (F : List Fr) (ys : List AV) : St :=
  if ys.length * bytes ≤ 140737488355328 ∧ ys.length ≤ 9223372036854775807 then
    if ys = [] then some (fr.set d (.v (.slice none 0 0)), F) else some ((fr.kill (.sl d)).set d (.own es ys), F)
  else none
def appNilO (d es bytes : Nat) (fr : Fr) (F : List Fr) : Option (Nat × List AV) → St
  | some (s, ys) =>
    if ys.length * bytes ≤ 140737488355328 ∧ ys.length ≤ 9223372036854775807 ∧ ys.isEmpty = false ∧ s ≠ d ∧ idxOk es ys = true then
      (mvRun ((appIdx 0 ys).map (appMv s d 0)) ((fr.kill (.sl d)).set d (.own es (ys.map skelE)) :: F)).bind uncons
    else none
  | none => none
def appOn (d es bytes : Nat) (fr : Fr) (F : List Fr) (ys : List AV) : Option (List AV × Pl × Nat × Nat × Nat × Nat) → St
  | some (xs, p, es', off, len, k) =>
    if es' = es ∧ off + len = xs.length ∧ rwAt fr F k = true ∧ baseIs k p.base d = false ∧ (len + ys.length) * bytes ≤ 140737488355328 ∧ len + ys.length ≤ 9223372036854775807 then
      uncons (setp (setp ((fr.kill (.sl d)).set d .junk :: F) k p .junk) 0 ⟨.sl d, [], 0⟩ (.own es (xs.drop off ++ ys)))
    else none
  | none => none
def appOnO (d es bytes : Nat) (fr : Fr) (F : List Fr) : Option (Nat × List AV) → Option (List AV × Pl × Nat × Nat × Nat × Nat) → St
  | some (s, ys), some (xs, p, es', off, len, k) =>
    if es' = es ∧ off + len = xs.length ∧ rwAt fr F k = true ∧ baseIs k p.base d = false ∧ (len + ys.length) * bytes ≤ 140737488355328 ∧ len + ys.length ≤ 9223372036854775807 ∧ s ≠ d ∧ baseIs k p.base s = false ∧ idxOk es ys = true then
      (mvRun ((appIdx 0 ys).map (appMv s d len)) (setp (setp ((fr.kill (.sl d)).set d .junk :: F) k p .junk) 0 ⟨.sl d, [], 0⟩ (.own es (xs.drop off ++ ys.map skelE)))).bind uncons
    else none
  | _, _ => none
def appK (d es bytes : Nat) (fr : Fr) (F : List Fr) (y : Opd) (vx : AV) : Option (List AV) → St
  | some ys =>
    if plainL es ys = true then (if nilsl vx = true then appNil d es bytes fr F ys else appOn d es bytes fr F ys (slcell (fr :: F) vx))
    else (if nilsl vx = true then appNilO d es bytes fr F (ownSlot fr es y) else appOnO d es bytes fr F (ownSlot fr es y) (slcell (fr :: F) vx))
  | none => none
def app2 (d es bytes : Nat) (isStr : Bool) (fr : Fr) (F : List Fr) (y : Opd) : Option AV → Option AV → St
  | some vx, some vy => appK d es bytes fr F y vx (appSrc isStr es (fr :: F) vy)
  | _, _ => none

def stH (m : Nat) (p : Pl) : AV → Bool := if m = 1 then hitsP p else deep p.base p.path
def store3 (m t : Nat) (fr : Fr) (F : List Fr) (x0 : AV) : Option (AV × Pl × Nat) → St
  | some (z, p, k) =>
    if notTup x0 = true ∧ x0.cells.length = m ∧ p.j + m ≤ z.cells.length ∧ 0 < m ∧ rwAt fr F k = true ∧ baseIs k p.base t = false then uncons (stCells (stH m p) t k p 0 x0.cells (fr :: F)) else none
  | none => none
def store2 (m t : Nat) (fr : Fr) (F : List Fr) : Option AV → Option AV → St
  | some vx, some x0 => store3 m t fr F x0 (deref (fr :: F) vx)
  | _, _ => none
def store1 (m : Nat) (x : Opd) (t : Nat) : St → St
  | some (fr, F) => store2 m t fr F (fr.ev x) (fr.sl.get t)
  | none => none
def storeC2 (v : Value) (fr : Fr) (F : List Fr) : Option (AV × Pl × Nat) → St
  | some (z, p, k) => if p.j < z.cells.length ∧ rwAt fr F k = true then uncons (setp (fr :: F) k p (.v v)) else none
  | none => none
def storeC1 (v : Value) (fr : Fr) (F : List Fr) : Option AV → St
  | some vx => storeC2 v fr F (deref (fr :: F) vx)
  | none => none
def box2 (s d : Nat) (fr : Fr) (F : List Fr) : Option AV → St
  | some x0 => if s ≠ d ∧ notTup x0 = true then (mvRun ((ownJ 0 x0.cells).map (boxMv s d)) ((fr.kill (.sl d)).set d (.obj (skelE x0)) :: F)).bind uncons else none
  | none => none
def box1 (s d : Nat) : St → St
  | some (fr, F) => box2 s d fr F (fr.sl.get s)
  | none => none
def lit2 (d es : Nat) (os : List Opd) (fr : Fr) (F : List Fr) : Option (List AV) → St
  | some xs => litFin d es fr F os xs
  | none => none
def lit1 (d es : Nat) (os : List Opd) : St → St
  | some (fr, F) => lit2 d es os fr F (evL fr os)
  | none => none

/-- What an operation that is no call does to the state. -/
def stK (d : Nat) (k : CK) (fr : Fr) (F : List Fr) : St :=
  match k with
  | .val e => stV d fr F (veval e fr F)
  | .mk l c z es b => mkFin d z es b fr F (fr.int l) (fr.int c)
  | .lit es os => lit1 d es os (claimTs .all (tmpsOf os) (some (fr, F)))
  | .app es b isStr x y => app2 d es b isStr fr F y (fr.ev x) (fr.ev y)
  | .store m x t => store1 m x t (claimT .all t fr F)
  | .storeC x v => storeC1 v fr F (fr.ev x)
  | .box s => box1 s d (claimT .all s fr F)
  | .alloc z => some ((fr.kill (.sl d)).set d (.obj (zeroAV z)), F)
  | .call _ _ => none

theorem rwAt_spec {fr : Fr} {F : List Fr} {k : Nat} (h : rwAt fr F k = true) : ((fr :: F).map Fr.rw)[k]? = some true := by simpa [rwAt] using h

theorem slcell_getp : ∀ (S : List Fr) (x : AV) (xs : List AV) (p : Pl) (es off len k : Nat), slcell S x = some (xs, p, es, off, len, k) → getp S k p = some (.own es xs)
  | [], x, _, _, _, _, _, _, h => by simp [slcell] at h
  | fr :: F, .sl p es off len, xs, p', es', off', len', k, h => by
    simp only [slcell] at h
    split at h
    · rename_i es2 xs2 hc
      split at h
      · rename_i hle
        simp only [Option.some.injEq, Prod.mk.injEq] at h
        obtain ⟨rfl, rfl, rfl, rfl, rfl, rfl⟩ := h
        obtain ⟨rfl, _⟩ := hle
        simpa only [getp] using hc
      · simp at h
    · simp at h
  | fr :: F, .up x, xs, p', es', off', len', k, h => by
    simp only [slcell, Option.map_eq_some_iff, Prod.mk.injEq] at h
    obtain ⟨⟨xs2, p2, e2, o2, l2, k2⟩, h1, rfl, rfl, rfl, rfl, rfl, rfl⟩ := h
    simp only [getp]
    exact slcell_getp F x _ _ _ _ _ _ h1
  | fr :: F, .v _, _, _, _, _, _, _, h => by simp [slcell] at h
  | fr :: F, .junk, _, _, _, _, _, _, h => by simp [slcell] at h
  | fr :: F, .agg _, _, _, _, _, _, _, h => by simp [slcell] at h
  | fr :: F, .tup _ _, _, _, _, _, _, _, h => by simp [slcell] at h
  | fr :: F, .own _ _, _, _, _, _, _, _, h => by simp [slcell] at h
  | fr :: F, .obj _, _, _, _, _, _, _, h => by simp [slcell] at h
  | fr :: F, .sa _ _ _ _, _, _, _, _, _, _, h => by simp [slcell] at h
  | fr :: F, .ptr _, _, _, _, _, _, _, h => by simp [slcell] at h
  | fr :: F, .fn _ _, _, _, _, _, _, _, h => by simp [slcell] at h
  | fr :: F, .lapp _ _ _ _ _, _, _, _, _, _, _, h => by simp [slcell] at h

theorem killV_sub' (b : Base) (x : AV) : ∀ (path : List Hop), path ≠ [] → (killV b x).sub path = x.sub path
  | [], h => absurd rfl h
  | [a], _ => killV_sub b x a
  | a :: a2 :: par, _ => by
    obtain ⟨j, i⟩ := a
    have ih := killV_sub' b x (a2 :: par) (by simp)
    simp only [AV.sub] at ih ⊢
    rw [ih]

theorem getp_kill {fr : Fr} {F : List Fr} {d k : Nat} {p : Pl} {es : Nat} {xs : List AV} (h : getp (fr :: F) k p = some (.own es xs)) (hne : ¬ (k = 0 ∧ p.base = .sl d)) :
    getp ((fr.kill (.sl d)).set d .junk :: F) k p = some (.own es xs) := by
  cases k with
  | succ k => exact h
  | zero =>
    simp only [getp, Option.bind_eq_some_iff] at h ⊢
    obtain ⟨x, hx, hc⟩ := h
    refine ⟨killV (.sl d) x, ?_, ?_⟩
    · cases hb : p.base with
      | sl s =>
        have hsd : s ≠ d := fun e => hne ⟨rfl, by rw [hb, e]⟩
        rw [hb] at hx
        simp only [Fr.root] at hx
        simp [Fr.root, Fr.set, Al.get_set, hsd, Fr.kill, Al.get_mapv, hx]
      | bx t =>
        rw [hb] at hx
        simp only [Fr.root] at hx
        simp [Fr.root, Fr.set, Fr.kill, Al.get_mapv, hx]
    · simp only [AV.cellIn, Option.bind_eq_some_iff] at hc ⊢
      obtain ⟨y, hy, hc⟩ := hc
      cases hp : p.path with
      | nil =>
        rw [hp] at hy
        simp only [AV.sub, Option.some.injEq] at hy
        subst hy
        refine ⟨_, rfl, ?_⟩
        rw [killV_cells, List.getElem?_map, hc]
        rfl
      | cons a par =>
        rw [hp] at hy
        exact ⟨y, by rw [killV_sub' _ _ _ (by simp)]; exact hy, hc⟩

theorem bind_uncons {o : Option (List Fr)} {fr : Fr} {F : List Fr} (h : o.bind uncons = some (fr, F)) : o = some (fr :: F) := by
  rw [Option.bind_eq_some_iff] at h
  obtain ⟨S, h1, h2⟩ := h
  rw [h1, uncons_eq h2]

end Go.Proofs.Ythlehngbadianaa.Ai
/- Compact operations: the step is sound. -/
set_option linter.unusedVariables false
set_option linter.unusedSimpArgs false
namespace Go.Proofs.Ythlehngbadianaa.Ai
open Go Go.RowKit

theorem claimTs_none {e : Sel} : ∀ (l : List Nat), claimTs e l none = none
  | [] => rfl
  | _ :: _ => rfl

section
variable {P : Program} {n : Nat} {fr : Fr} {F : List Fr} {K : Post}

theorem appSrc_info {o : Oper} {args : Array Operand} {ats : Array TypeId} {x y : Operand} {t ty e : TypeId} {z : Value} {es bytes : Nat} {isStr : Bool} (hop : o.op = .call { callee := .builtin .append, args := args, argTypes := ats }) (h1 : args.toList = [x, y]) (h2 : ats.toList = [t, ty])
    (hi : mkInfo P t = some (e, z, es, bytes)) (hk : if isStr = true then P.underlying ty = some .string else ∃ e', P.underlying ty = some (.slice e')) : AppInfo P o x y t ty e z es bytes isStr := by
  obtain rfl : args = #[x, y] := by apply Array.toList_inj.1; rw [h1]
  obtain rfl : ats = #[t, ty] := by apply Array.toList_inj.1; rw [h2]
  exact ⟨hop, mkInfo_spec hi, by simpa using hk⟩

theorem app_sound {o : Oper} {x y : Operand} {ox oy : Opd} {t ty e : TypeId} {z : Value} {es bytes d : Nat} {isStr : Bool} (hI : AppInfo P o x y t ty e z es bytes isStr) (hox : opd x = some ox) (hoy : opd y = some oy) (hd : o.dst = some d) (hdn : d < n)
    {fr' : Fr} {F' : List Fr} (h : app2 d es bytes isStr fr F oy (fr.ev ox) (fr.ev oy) = some (fr', F')) (hk : K fr' F') : AOp P n o fr F K := by
  cases hx : fr.ev ox with
  | none => rw [hx] at h; simp [app2] at h
  | some vx =>
  cases hy : fr.ev oy with
  | none => rw [hx, hy] at h; simp [app2] at h
  | some vy =>
  rw [hx, hy] at h
  simp only [app2] at h
  cases hs : appSrc isStr es (fr :: F) vy with
  | none => rw [hs] at h; simp [appK] at h
  | some ys =>
  rw [hs] at h
  simp only [appK] at h
  split at h
  · rename_i hpl
    obtain ⟨vss, hvss⟩ := plainL_of hpl
    split at h
    · rename_i hnil
      simp only [appNil] at h
      split at h
      · rename_i hb
        refine AOp_app_nil hI hox hoy hd hdn hx hnil hy hs hvss hb.1 hb.2 ?_
        split at h
        · rename_i he
          simp only [Option.some.injEq, Prod.mk.injEq] at h
          obtain ⟨rfl, rfl⟩ := h
          rw [if_pos he]; exact hk
        · rename_i he
          simp only [Option.some.injEq, Prod.mk.injEq] at h
          obtain ⟨rfl, rfl⟩ := h
          rw [if_neg he]; exact hk
      · simp at h
    · cases hsl : slcell (fr :: F) vx with
      | none => rw [hsl] at h; simp [appOn] at h
      | some r =>
        obtain ⟨xs, p, es', off, len, k⟩ := r
        rw [hsl] at h
        simp only [appOn] at h
        split at h
        · rename_i hh
          obtain ⟨rfl, h2, h3, h4, h5, h6⟩ := hh
          have hne := baseIs_spec h4
          refine AOp_app_own hI hox hoy hd hdn hx hsl h2 (rwAt_spec h3) hne hy hs hvss h5 h6 (getp_kill (slcell_getp _ _ _ _ _ _ _ _ hsl) hne) rfl ?_
          intro fr1 F1 he
          rw [he] at h
          simp only [uncons, Option.some.injEq, Prod.mk.injEq] at h
          obtain ⟨rfl, rfl⟩ := h
          exact hk
        · simp at h
  · have key : ∀ s ys, ownSlot fr es oy = some (s, ys) → oy = .s s → y = .tmp s := by
      rintro s ys _ rfl
      exact (opd_to hoy).symm
    have hstr : ∀ s ys, ownSlot fr es oy = some (s, ys) → isStr = false := by
      intro s ys' ho
      obtain ⟨rfl, hg⟩ := ownSlot_spec ho
      cases isStr with
      | false => rfl
      | true =>
        simp only [Fr.ev, hg, Option.map_some, Option.some.injEq] at hy
        subst hy
        simp [appSrc, borrow, borrow1] at hs
    split at h
    · rename_i hnil
      cases ho : ownSlot fr es oy with
      | none => rw [ho] at h; simp [appNilO] at h
      | some r =>
        obtain ⟨s, ys'⟩ := r
        obtain ⟨e1, hg⟩ := ownSlot_spec ho
        have hys := key _ _ ho e1
        have hst := hstr _ _ ho
        subst hst hys
        rw [ho] at h
        simp only [appNilO] at h
        split at h
        · rename_i hh
          obtain ⟨h1, h2, h3, h4, h5⟩ := hh
          exact AOp_appO_nil hI hox hd hdn hx hnil h4 hg (by intro e; simp [e] at h3) h1 h2 h5 (bind_uncons h) hk
        · simp at h
    · cases ho : ownSlot fr es oy with
      | none => rw [ho] at h; simp [appOnO] at h
      | some r =>
        obtain ⟨s, ys'⟩ := r
        obtain ⟨e1, hg⟩ := ownSlot_spec ho
        have hys := key _ _ ho e1
        have hst := hstr _ _ ho
        subst hst hys
        rw [ho] at h
        cases hsl : slcell (fr :: F) vx with
        | none => rw [hsl] at h; simp [appOnO] at h
        | some r =>
          obtain ⟨xs, p, es', off, len, k⟩ := r
          rw [hsl] at h
          simp only [appOnO] at h
          split at h
          · rename_i hh
            obtain ⟨rfl, h2, h3, h4, h5, h6, h7, h8, h9⟩ := hh
            have hne := baseIs_spec h4
            have hnes := baseIs_spec h8
            refine AOp_appO_own hI hox hd hdn hx hsl h2 (rwAt_spec h3) hne h7 hnes hg h5 h6 h9 (getp_kill (slcell_getp _ _ _ _ _ _ _ _ hsl) hne) rfl ?_
            intro fr1 F1 he
            rw [he] at h
            refine ⟨?_, _, _, bind_uncons h, hk⟩
            obtain ⟨fr2, F2, e2, _⟩ := setp_cons ((fr.kill (.sl d)).set d .junk) F k p .junk
            rw [e2] at he
            rw [setp_get (t := s) (k := 0) (p := ⟨.sl d, [], 0⟩) (by rintro ⟨_, e⟩; exact h7 (by simpa using e.symm)) he, setp_get hnes e2]
            simp [Fr.set, Al.get_set, h7, Fr.kill, Al.get_mapv, hg, killV, killC, hits]
          · simp at h

theorem stH_covers {m : Nat} {p : Pl} : ∀ i, i < m → Covers (stH m p) { p with j := p.j + i } := by
  intro i hi
  unfold stH
  split
  · rename_i h
    subst h
    obtain rfl : i = 0 := by omega
    exact covers_hitsP p
  · exact covers_deep _ _ _ rfl (Nat.le_refl _)

theorem store_sound {o : Oper} {ty : TypeId} {x : Operand} {ox : Opd} {t m : Nat} (hop : o.op = .store ty x (.tmp t)) (hd : o.dst = none) (hox : opd x = some ox) (hsz : sizeT P ty = some m) {fr' : Fr} {F' : List Fr} (h : store1 m ox t (claimT .all t fr F) = some (fr', F')) (hk : K fr' F') : AOp P n o fr F K := by
  cases hc : claimT .all t fr F with
  | none => rw [hc] at h; simp [store1] at h
  | some s =>
  obtain ⟨fr1, F1⟩ := s
  refine AOp_ghost (claimL_ghost _ hc) ?_
  rw [hc] at h
  simp only [store1] at h
  cases hx : fr1.ev ox with
  | none => rw [hx] at h; simp [store2] at h
  | some vx =>
  cases hx0 : fr1.sl.get t with
  | none => rw [hx, hx0] at h; simp [store2] at h
  | some x0 =>
  rw [hx, hx0] at h
  simp only [store2] at h
  cases hde : deref (fr1 :: F1) vx with
  | none => rw [hde] at h; simp [store3] at h
  | some r =>
  obtain ⟨z, p, k⟩ := r
  rw [hde] at h
  simp only [store3] at h
  split at h
  · rename_i hh
    obtain ⟨h1, h2, h3, h4, h5, h6⟩ := hh
    subst h2
    exact AOp_store hop hd hox hx hde hx0 h1 hsz h3 h4 (rwAt_spec h5) (baseIs_spec h6) stH_covers (uncons_eq h) hk
  · simp at h

theorem storeC_sound {o : Oper} {ty : TypeId} {x : Operand} {ox : Opd} {v : Value} (hop : o.op = .store ty x (.const v)) (hd : o.dst = none) (hox : opd x = some ox) (hsz : sizeT P ty = some 1) (hv : v.oneCell' = true) {fr' : Fr} {F' : List Fr} (h : storeC1 v fr F (fr.ev ox) = some (fr', F')) (hk : K fr' F') : AOp P n o fr F K := by
  cases hx : fr.ev ox with
  | none => rw [hx] at h; simp [storeC1] at h
  | some vx =>
  rw [hx] at h
  simp only [storeC1] at h
  cases hde : deref (fr :: F) vx with
  | none => rw [hde] at h; simp [storeC2] at h
  | some r =>
  obtain ⟨z, p, k⟩ := r
  rw [hde] at h
  simp only [storeC2] at h
  split at h
  · rename_i hh
    exact AOp_storeC hop hd hox hx hde hv hsz hh.1 (rwAt_spec hh.2) (uncons_eq h) hk
  · simp at h

theorem box_sound {o : Oper} {t : TypeId} {s d : Nat} {b : Bool} (hop : o.op = .box t (.tmp s)) (hd : o.dst = some d) (hdn : d < n) {fr' : Fr} {F' : List Fr} (h : box1 s d (claimT .all s fr F) = some (fr', F')) (hk : K fr' F') : AOpC b P n o fr F K := by
  cases hc : claimT .all s fr F with
  | none => rw [hc] at h; simp [box1] at h
  | some st =>
  obtain ⟨fr1, F1⟩ := st
  refine AOpC_ghost (claimL_ghost _ hc) ?_
  rw [hc] at h
  simp only [box1] at h
  cases hx0 : fr1.sl.get s with
  | none => rw [hx0] at h; simp [box2] at h
  | some x0 =>
  rw [hx0] at h
  simp only [box2] at h
  split at h
  · rename_i hh
    refine AOp_box hop hd hdn hh.1 hx0 hh.2 (idx := ownJ 0 x0.cells) ?_ (bind_uncons h) hk
    rw [List.all_eq_true]
    intro j hj
    have := ownJ_lt _ _ _ hj
    simpa using this
  · simp at h

theorem litIdx_ok {fr : Fr} {d es : Nat} : ∀ (os : List Opd) (parts : List (Nat × Operand)) (i0 : Nat) (pre : List (Nat × Operand)), pre.length = i0 → (parts.map (·.2)).mapM opd = some os →
    (litIdx fr i0 os).all (fun x => decide (x.1 ≠ d) && decide (x.2.2 < es)) = true → (litIdx fr i0 os).all (okLit d es (pre ++ parts)) = true
  | [], parts, i0, pre, _, _, _ => by simp [litIdx]
  | o :: os, parts, i0, pre, hp, hm, hall => by
    cases parts with
    | nil => simp at hm
    | cons q parts =>
    simp only [List.map_cons, List.mapM_cons, Option.pure_def, Option.bind_eq_bind, Option.bind_eq_some_iff, Option.some.injEq, List.cons.injEq] at hm
    obtain ⟨o', ho, os', hos, rfl, rfl⟩ := hm
    have key : ∀ h : (litIdx fr (i0 + 1) os').all (fun x => decide (x.1 ≠ d) && decide (x.2.2 < es)) = true, (litIdx fr (i0 + 1) os').all (okLit d es (pre ++ q :: parts)) = true := by
      intro h
      have := litIdx_ok os' parts (i0 + 1) (pre ++ [q]) (by simp [hp]) hos h
      simpa using this
    cases o' with
    | c v => simp only [litIdx] at hall ⊢; exact key hall
    | g f => simp only [litIdx] at hall ⊢; exact key hall
    | s t =>
      simp only [litIdx, List.all_append, Bool.and_eq_true] at hall ⊢
      refine ⟨?_, key hall.2⟩
      have h1 := hall.1
      cases hg : fr.sl.get t with
      | none => simp [hg]
      | some x =>
        simp only [hg] at h1 ⊢
        rw [List.all_eq_true] at h1 ⊢
        intro y hy
        have h2 := h1 y hy
        rw [List.mem_map] at hy
        obtain ⟨j, _, rfl⟩ := hy
        have hq := opd_to ho
        simp only [Opd.to] at hq
        obtain ⟨q1, q2⟩ := q
        simp only at hq
        subst hq
        simp only [okLit, Bool.and_eq_true] at h2 ⊢
        refine ⟨h2, ?_⟩
        rw [List.getElem?_append_right (by omega)]
        simp [hp]

theorem lit_sound {o : Oper} {t : TypeId} {len : Nat} {parts : Array (Nat × Operand)} {k : CK} {d : Nat} {b : Bool} (hop : o.op = .buildSlice t len parts) (hc : compLit P t len parts.toList = some k) (hd : o.dst = some d) (hdn : d < n) {fr' : Fr} {F' : List Fr} (h : stK d k fr F = some (fr', F')) (hk : K fr' F') :
    AOpC b P n o fr F K := by
  unfold compLit at hc
  split at hc
  · rename_i e z es bytes os hi hos
    split at hc
    · rename_i hh
      obtain ⟨h1, h2, h3⟩ := hh
      simp only [Option.some.injEq] at hc
      subst hc
      simp only [stK] at h
      cases hcl : claimTs .all (tmpsOf os) (some (fr, F)) with
      | none => rw [hcl] at h; simp [lit1] at h
      | some st =>
      obtain ⟨fr1, F1⟩ := st
      refine AOpC_ghost (claimTs_ghost _ hcl) ?_
      rw [hcl] at h
      simp only [lit1] at h
      cases hev : evL fr1 os with
      | none => rw [hev] at h; simp [lit2] at h
      | some xs =>
      rw [hev] at h
      rw [evL_mapM] at hev
      simp only [lit2, litFin] at h
      split at h
      · rename_i hpl
        obtain ⟨vss, hvss⟩ := plainL_of hpl
        simp only [Option.some.injEq, Prod.mk.injEq] at h
        obtain ⟨rfl, rfl⟩ := h
        exact AOp_lit hop h1 hos hi hd hdn h2 h3 hev hvss hk
      · split at h
        · rename_i hh
          exact AOp_litO hop h1 hos hi hd hdn h2 h3 hev hh.1 (litIdx_ok os parts.toList 0 [] rfl hos hh.2) (bind_uncons h) hk
        · simp at h
    · simp at hc
  · simp at hc

theorem mk_sound {o : Oper} {t : TypeId} {l c : Operand} {ol oc : Opd} {e : TypeId} {z : Value} {es bytes d : Nat} {b : Bool} (hop : o.op = .makeSlice t l c) (hol : opd l = some ol) (hoc : opd c = some oc) (hi : mkInfo P t = some (e, z, es, bytes)) (hd : o.dst = some d) (hdn : d < n)
    {fr' : Fr} {F' : List Fr} (h : mkFin d z es bytes fr F (fr.int ol) (fr.int oc) = some (fr', F')) (hk : K fr' F') : AOpC b P n o fr F K := by
  cases hl : fr.int ol with
  | none => rw [hl] at h; simp [mkFin] at h
  | some lv =>
  cases hc : fr.int oc with
  | none => rw [hl, hc] at h; simp [mkFin] at h
  | some cv =>
  rw [hl, hc] at h
  simp only [mkFin] at h
  split at h
  · rename_i hh
    simp only [Option.some.injEq, Prod.mk.injEq] at h
    obtain ⟨rfl, rfl⟩ := h
    exact AOp_mk hop hol hoc hi hd hdn hl hc hh.1 hh.2.1 hh.2.2.1 hh.2.2.2 hk
  · simp at h

def CK.isCall : CK → Bool
  | .call _ _ => true
  | _ => false

theorem val_sound {o : Oper} {k : CK} {d : Nat} {b : Bool} (hc : (compV P o.op).map CK.val = some k) (hd : k.isStore = true ∧ o.dst = none ∨ k.isStore = false ∧ o.dst = some d ∧ d < n) {fr' : Fr} {F' : List Fr} (h : stK d k fr F = some (fr', F')) (hk : K fr' F') : AOpC b P n o fr F K := by
  simp only [Option.map_eq_some_iff] at hc
  obtain ⟨e, he, rfl⟩ := hc
  rcases hd with ⟨h1, _⟩ | ⟨_, h1, h2⟩
  · simp [CK.isStore] at h1
  · simp only [stK, stV] at h
    cases hv : veval e fr F with
    | none => rw [hv] at h; simp [stV] at h
    | some z =>
      rw [hv] at h
      simp only [stV, Option.some.injEq, Prod.mk.injEq] at h
      obtain ⟨rfl, rfl⟩ := h
      exact AOpC_val he h1 h2 hv hk

theorem stK_sound {o : Oper} {k : CK} {d : Nat} (hc : compK P o.op = some k) (hd : k.isStore = true ∧ o.dst = none ∨ k.isStore = false ∧ o.dst = some d ∧ d < n) {fr' : Fr} {F' : List Fr} (h : stK d k fr F = some (fr', F')) (hk : K fr' F') : AOpC k.calm P n o fr F K := by
  generalize hop : o.op = op at hc
  unfold compK at hc
  split at hc
  · -- make
    split at hc
    · rename_i ol oc e z es b h1 h2 h3
      simp only [Option.some.injEq] at hc
      subst hc
      simp only [CK.isStore, Bool.false_eq_true, false_and, true_and, false_or] at hd
      exact mk_sound hop h1 h2 h3 hd.1 hd.2 h hk
    · simp at hc
  · rename_i t len parts
    have : k.isStore = false := by
      unfold compLit at hc
      split at hc
      · split at hc
        · simp only [Option.some.injEq] at hc; subst hc; rfl
        · simp at hc
      · simp at hc
    simp only [this, Bool.false_eq_true, false_and, true_and, false_or] at hd
    exact lit_sound hop hc hd.1 hd.2 h hk
  · -- append
    rename_i args ats
    unfold compApp at hc
    split at hc
    · rename_i x y t ty hl1 hl2
      split at hc
      · rename_i ox oy e z es b h1 h2 h3 h4
        simp only [Option.some.injEq] at hc
        subst hc
        simp only [CK.isStore, Bool.false_eq_true, false_and, true_and, false_or] at hd
        exact (app_sound (appSrc_info hop hl1 hl2 h3 (isStr := true) (by simpa using h4)) h1 h2 hd.1 hd.2 h hk).c
      · rename_i ox oy e z es b e' h1 h2 h3 h4
        simp only [Option.some.injEq] at hc
        subst hc
        simp only [CK.isStore, Bool.false_eq_true, false_and, true_and, false_or] at hd
        exact (app_sound (appSrc_info hop hl1 hl2 h3 (isStr := false) (by simpa using ⟨_, h4⟩)) h1 h2 hd.1 hd.2 h hk).c
      · simp at hc
    · simp at hc
  · -- call
    rename_i f args ats
    unfold compCall at hc
    split at hc
    · split at hc
      · simp only [Option.some.injEq] at hc; subst hc; simp [stK] at h
      · simp at hc
    · simp at hc
  · rename_i ty x t
    split at hc
    · rename_i ox m h1 h2
      simp only [Option.some.injEq] at hc
      subst hc
      simp only [CK.isStore, Bool.true_eq_false, false_and, true_and, or_false] at hd
      exact (store_sound hop hd h1 h2 h hk).c
    · simp at hc
  · rename_i ty x v
    split at hc
    · rename_i ox h1 h2
      split at hc
      · rename_i hv
        simp only [Option.some.injEq] at hc
        subst hc
        simp only [CK.isStore, Bool.true_eq_false, false_and, true_and, or_false] at hd
        exact (storeC_sound hop hd h1 h2 hv h hk).c
      · simp at hc
    · simp at hc
  · rename_i t s
    simp only [Option.some.injEq] at hc
    subst hc
    simp only [CK.isStore, Bool.false_eq_true, false_and, true_and, false_or] at hd
    exact box_sound hop hd.1 hd.2 h hk
  · rename_i t
    split at hc
    · rename_i z hz
      split at hc
      · rename_i hp
        simp only [Option.some.injEq] at hc
        subst hc
        simp only [CK.isStore, Bool.false_eq_true, false_and, true_and, false_or] at hd
        simp only [stK, Option.some.injEq, Prod.mk.injEq] at h
        obtain ⟨rfl, rfl⟩ := h
        exact AOp_alloc hop hz hp hd.1 hd.2 hk
      · simp at hc
    · simp at hc
  · subst hop
    exact val_sound hc hd h hk

end
end Go.Proofs.Ythlehngbadianaa.Ai
/- What is to be shown of a compact code. -/
set_option linter.unusedVariables false
set_option linter.unusedSimpArgs false
namespace Go.Proofs.Ythlehngbadianaa.Ai
open Go Go.RowKit

/-- A region whose order is drawn: what may come next. -/
inductive PT where
  | done
  | op (o : CO) (t : PT)
  | alt (a b : PT)

inductive CC where
  | skip
  | exit (id : Nat)
  | ret
  | seq (a b : CC)
  | cond (c : Opd) (a b : CC)
  | block (id : Nat) (a : CC)
  | region (l : List CO)
  | loop (a : CC)
  | drawn (t : PT)

def CO.strip (o : CO) : CO := ⟨o.g, o.d, o.k, [], []⟩
def CC.strip : CC → CC
  | .seq a b => .seq a.strip b.strip
  | .cond c a b => .cond c a.strip b.strip
  | .block id a => .block id a.strip
  | .region l => .region (l.map CO.strip)
  | .loop a => .loop a.strip
  | x => x

def dstO (n : Nat) (k : CK) (dst : Option Nat) : Option Nat :=
  if k.isStore then (if dst.isNone then some 0 else none) else match dst with
    | some d => if d < n then some d else none
    | none => none
def compO (P : Program) (n : Nat) (ops : Array Oper) (o : Oper) : Option CO :=
  match compK P o.op with
  | none => none
  | some k => match dstO n k o.dst with
    | none => none
    | some d => match o.guard with
      | none => some ⟨none, d, k, [], []⟩
      | some (j, want) => match (ops[j]?).bind (·.dst) with
        | some s => if s < n then some ⟨some (s, want), d, k, [], []⟩ else none
        | none => none
def compI (P : Program) (n : Nat) (ops : Array Oper) (i : Nat) : Option CO := (ops[i]?).bind (compO P n ops)
def calmI (P : Program) (n : Nat) (ops : Array Oper) (i : Nat) : Bool :=
  match compI P n ops i with
  | some co => co.k.calm
  | none => false
def CK.valLd : CK → Option Bool
  | .val e => some e.isLd
  | _ => none
/-- May it be taken first, as a value? -/
def takeI (P : Program) (n : Nat) (ops : Array Oper) (listed : Array Bool) (i : Nat) : Bool :=
  match compI P n ops i with
  | some co => match co.k.valLd with
    | some ld => takeOk ops (calmI P n ops) listed i ld
    | none => false
  | none => false
def consO (a : Option CO) (l : Option (List CO)) : Option (List CO) :=
  match a, l with
  | some a, some l => some (a :: l)
  | _, _ => none
def planD (P : Program) (n : Nat) (ops : Array Oper) : Nat → Array Bool → Option (List CO)
  | 0, listed => match Region.ready .any ops listed with
    | [] => some []
    | _ => none
  | fuel + 1, listed => match Region.ready .any ops listed with
    | [] => some []
    | rs => match rs.find? (takeI P n ops listed) with
      | some i => consO (compI P n ops i) (planD P n ops fuel (listed.setIfInBounds i true))
      | none => match rs with
        | [i] => consO (compI P n ops i) (planD P n ops fuel (listed.setIfInBounds i true))
        | _ => none

def consT (a : Option CO) (t : Option PT) : Option PT :=
  match a, t with
  | some a, some t => some (.op a t)
  | _, _ => none
def altsT : List (Option PT) → Option PT
  | [] => none
  | [x] => x
  | x :: y :: l => match x, altsT (y :: l) with
    | some a, some b => some (.alt a b)
    | _, _ => none
def planT (P : Program) (n : Nat) (ops : Array Oper) : Nat → Array Bool → Option PT
  | 0, listed => match Region.ready .any ops listed with
    | [] => some .done
    | _ => none
  | fuel + 1, listed => match Region.ready .any ops listed with
    | [] => some .done
    | rs => match rs.find? (takeI P n ops listed) with
      | some i => consT (compI P n ops i) (planT P n ops fuel (listed.setIfInBounds i true))
      | none => altsT (rs.map fun i => consT (compI P n ops i) (planT P n ops fuel (listed.setIfInBounds i true)))

/-! The same with what is listed as a number's bits: the kernel counts with numbers. -/
def onM : List Edge → Nat
  | [] => 0
  | e :: l => if Region.binds .any e = true then 2 ^ e.on ||| onM l else onM l
def rdyM (ops : Array Oper) (m i : Nat) : Bool :=
  match ops[i]? with
  | some o => Nat.beq (onM o.after.toList ||| m) m
  | none => false
def readyM (ops : Array Oper) (m : Nat) : List Nat := (List.range ops.size).filter fun i => !m.testBit i && rdyM ops m i
/-- Number j does not keep number i from being taken first. -/
def freeJ (ops : Array Oper) (calm : Nat → Bool) (i : Nat) (oi : Oper) (ld : Bool) (j : Nat) : Bool :=
  j == i || match ops[j]? with
    | some oj => (depD ops i).testBit j || (oi.apart ops oj && (!ld || calm j))
    | none => true
def badL (ops : Array Oper) (calm : Nat → Bool) (i : Nat) (oi : Oper) (ld : Bool) : List Nat → Nat
  | [] => 0
  | j :: l => if freeJ ops calm i oi ld j = true then badL ops calm i oi ld l else 2 ^ j ||| badL ops calm i oi ld l
def badI (P : Program) (n : Nat) (ops : Array Oper) (i : Nat) : Option Nat :=
  match compI P n ops i with
  | some co => match co.k.valLd with
    | some ld => match ops[i]? with
      | some oi => some (badL ops (calmI P n ops) i oi ld (List.range ops.size))
      | none => none
    | none => none
  | none => none
def takeM (P : Program) (n : Nat) (ops : Array Oper) (m i : Nat) : Bool :=
  match badI P n ops i with
  | some b => Nat.beq (depD ops i &&& m) 0 && Nat.beq (b ||| m) m
  | none => false
def planDM (P : Program) (n : Nat) (ops : Array Oper) : Nat → Nat → Option (List CO)
  | 0, m => match readyM ops m with
    | [] => some []
    | _ => none
  | fuel + 1, m => match readyM ops m with
    | [] => some []
    | rs => match rs.find? (takeM P n ops m) with
      | some i => consO (compI P n ops i) (planDM P n ops fuel (m ||| 2 ^ i))
      | none => match rs with
        | [i] => consO (compI P n ops i) (planDM P n ops fuel (m ||| 2 ^ i))
        | _ => none
def planTM (P : Program) (n : Nat) (ops : Array Oper) : Nat → Nat → Option PT
  | 0, m => match readyM ops m with
    | [] => some .done
    | _ => none
  | fuel + 1, m => match readyM ops m with
    | [] => some .done
    | rs => match rs.find? (takeM P n ops m) with
      | some i => consT (compI P n ops i) (planTM P n ops fuel (m ||| 2 ^ i))
      | none => altsT (rs.map fun i => consT (compI P n ops i) (planTM P n ops fuel (m ||| 2 ^ i)))

def compC (P : Program) (n : Nat) : Code → Option CC
  | .skip => some .skip
  | .exit id => some (.exit id)
  | .ret => some .ret
  | .seq a b => match compC P n a, compC P n b with
    | some a', some b' => some (.seq a' b')
    | _, _ => none
  | .cond c a b => match opd c, compC P n a, compC P n b with
    | some c', some a', some b' => some (.cond c' a' b')
    | _, _, _ => none
  | .block id a => match compC P n a with
    | some a' => some (.block id a')
    | none => none
  | .loop a => match compC P n a with
    | some a' => some (.loop a')
    | none => none
  | .region _ ops false => match (List.range ops.size).mapM (compI P n ops) with
    | some l => some (.region l)
    | none => none
  | .region _ ops true => if Region.noSelect ops = true then match planDM P n ops ops.size 0 with
    | some l => some (.region l)
    | none => match planTM P n ops ops.size 0 with
      | some t => some (.drawn t)
      | none => none
    else none
  | _ => none

/-! Behind an operation. -/
def owning (x : AV) : Bool := x.cells.any AV.owns
def drop1 (d : Nat) (fr : Fr) : Option AV → Fr
  | some x => if owning x = true then fr else fr.del d
  | none => fr
def dropX : List Nat → Fr → Fr
  | [], fr => fr
  | d :: l, fr => dropX l (drop1 d fr (fr.sl.get d))
def dropS (x : List Nat) : St → St
  | some (fr, F) => some (dropX x fr, F)
  | none => none
def claimB (d : Nat) (c : List Nat) : St → St
  | some (fr, F) => if c.isEmpty = true then some (fr, F) else claimT (.from c) d fr F
  | none => none
def aftS (d : Nat) (c : List Nat) (x : List Nat) (s : St) : St := dropS x (claimB d c s)

theorem Ghost.del (fr : Fr) (F : List Fr) (d : Nat) : Ghost fr F (fr.del d) F := by
  intro w G n a hr
  have hw := Weak.del fr F d
  refine ⟨G, ⟨hr.ok.weaken hw, hr.tm, ?_, hr.size, hr.wr, hr.defers, hw.clean hr.clean⟩, Tr.weak hw (Shp.cons _ _ _), rfl⟩
  intro k x hx
  simp only [Fr.del, Al.get_del] at hx
  split at hx
  · simp at hx
  · exact hr.shape k x hx
theorem Ghost.dropX : ∀ (l : List Nat) (fr : Fr) (F : List Fr), Ghost fr F (dropX l fr) F
  | [], fr, F => Ghost.refl _ _
  | d :: l, fr, F => by
    simp only [Ai.dropX]
    refine Ghost.trans ?_ (Ghost.dropX l _ F)
    unfold drop1
    split
    · split
      · exact Ghost.refl _ _
      · exact Ghost.del fr F d
    · exact Ghost.refl _ _
theorem aftS_ghost {d : Nat} {c : List Nat} {x : List Nat} {fr : Fr} {F : List Fr} {fr' : Fr} {F' : List Fr} (h : aftS d c x (some (fr, F)) = some (fr', F')) : Ghost fr F fr' F' := by
  simp only [aftS, claimB] at h
  split at h
  · simp only [dropS, Option.some.injEq, Prod.mk.injEq] at h
    obtain ⟨rfl, rfl⟩ := h
    exact Ghost.dropX _ _ _
  · cases hc : claimT (.from c) d fr F with
    | none => rw [hc] at h; simp [dropS] at h
    | some s =>
      obtain ⟨fr1, F1⟩ := s
      rw [hc] at h
      simp only [dropS, Option.some.injEq, Prod.mk.injEq] at h
      obtain ⟨rfl, rfl⟩ := h
      exact (claimL_ghost _ hc).trans (Ghost.dropX _ _ _)

def aft (o : CO) (K : Post) : Post := fun fr F => ∃ fr' F', aftS o.d o.c o.x (some (fr, F)) = some (fr', F') ∧ K fr' F'
theorem Good.aft {n : Nat} {fr : Fr} {F : List Fr} {w : World} {G : Gh} {o : CO} {K : Post} {a' : Act} {w' : World} (h : Good n fr F w G (Ai.aft o K) a' w') : Good n fr F w G K a' w' := by
  obtain ⟨G', fr', F', ⟨fr2, F2, h1, h2⟩, hl, hrel, htr⟩ := h
  obtain ⟨G2, k1, k2, k3⟩ := aftS_ghost h1 w' G' n a' hrel
  rw [hl] at k2
  exact ⟨G2, fr2, F2, h2, by omega, k1, htr.trans k2⟩

def SO1 (P : Program) (o : CO) (fr : Fr) (F : List Fr) (K : Post) : Prop :=
  match o.k with
  | .call f args => ∃ xs, evL fr args = some xs ∧ ACalls P f (liftL xs) (fr :: F) (callQ o.d (aft o K))
  | k => ∃ fr' F', stK o.d k fr F = some (fr', F') ∧ aft o K fr' F'
def SO (P : Program) (o : CO) (fr : Fr) (F : List Fr) (K : Post) : Prop :=
  match o.g with
  | none => SO1 P o fr F K
  | some (s, want) => ∃ b, fr.sl.get s = some (.v (.bool b)) ∧ (b = want → SO1 P o fr F K) ∧ (b ≠ want → K (if o.k.isStore then fr else fr.del o.d) F)
def semL (P : Program) : List CO → Fr → List Fr → Post → Prop
  | [], fr, F, K => K fr F
  | o :: l, fr, F, K => SO P o fr F (fun fr' F' => semL P l fr' F' K)

def semT (P : Program) : PT → Fr → List Fr → Post → Prop
  | .done, fr, F, K => K fr F
  | .op o t, fr, F, K => SO P o fr F (fun fr' F' => semT P t fr' F' K)
  | .alt a b, fr, F, K => semT P a fr F K ∧ semT P b fr F K

section
variable {P : Program} {n : Nat} {fr : Fr} {F : List Fr} {K : Post} {ops : Array Oper}

structure CoOk (P : Program) (n : Nat) (ops : Array Oper) (o : Oper) (co : CO) : Prop where
  k : compK P o.op = some co.k
  d : co.k.isStore = true ∧ o.dst = none ∨ co.k.isStore = false ∧ o.dst = some co.d ∧ co.d < n
  g : (o.guard = none ∧ co.g = none) ∨ ∃ j want s oj, o.guard = some (j, want) ∧ ops[j]? = some oj ∧ oj.dst = some s ∧ s < n ∧ co.g = some (s, want)

theorem compO_ok {o : Oper} {co : CO} (h : compO P n ops o = some co.strip) : CoOk P n ops o co := by
  unfold compO at h
  split at h
  · simp at h
  · rename_i k hk
    split at h
    · simp at h
    · rename_i d hd
      have hd' : k.isStore = true ∧ o.dst = none ∨ k.isStore = false ∧ o.dst = some d ∧ d < n := by
        unfold dstO at hd
        split at hd
        · rename_i hs
          left
          split at hd
          · rename_i h'; exact ⟨hs, by simpa using h'⟩
          · simp at hd
        · rename_i hs
          right
          split at hd
          · rename_i d' hd2
            split at hd
            · rename_i hlt
              simp only [Option.some.injEq] at hd
              subst hd
              exact ⟨by simpa using hs, hd2, hlt⟩
            · simp at hd
          · simp at hd
      split at h
      · rename_i hg
        simp only [Option.some.injEq, CO.strip, CO.mk.injEq, and_true] at h
        obtain ⟨h1, h2, h3⟩ := h
        exact ⟨by rw [hk, h3], by rw [← h3, ← h2]; exact hd', Or.inl ⟨hg, h1.symm⟩⟩
      · rename_i j want hg
        split at h
        · rename_i s hs
          split at h
          · rename_i hlt
            simp only [Option.some.injEq, CO.strip, CO.mk.injEq, and_true] at h
            obtain ⟨h1, h2, h3⟩ := h
            rw [Option.bind_eq_some_iff] at hs
            obtain ⟨oj, hoj, hdj⟩ := hs
            exact ⟨by rw [hk, h3], by rw [← h3, ← h2]; exact hd', Or.inr ⟨j, want, s, oj, hg, hoj, hdj, hlt, h1.symm⟩⟩
          · simp at h
        · simp at h

theorem call_inv {o : Oper} {f : FuncId} {args : List Opd} (h : compK P o.op = some (.call f args)) :
    ∃ as ats fn, o.op = .call { callee := .value (.func f), args := as, argTypes := ats } ∧ P.funcs[f]? = some fn ∧ (fn.name == "runtime.NumGoroutine") = false ∧ fn.body.isNone = false ∧ as.toList.mapM opd = some args := by
  generalize hop : o.op = op at h
  unfold compK at h
  split at h
  · split at h <;> simp at h
  · unfold compLit at h
    split at h
    · split at h <;> simp at h
    · simp at h
  · unfold compApp at h
    split at h
    · split at h <;> simp at h
    · simp at h
  · rename_i f' as ats
    unfold compCall at h
    split at h
    · rename_i fn os h1 h2
      split at h
      · rename_i hh
        simp only [Option.some.injEq, CK.call.injEq] at h
        obtain ⟨rfl, rfl⟩ := h
        exact ⟨as, ats, fn, rfl, h1, hh.1, hh.2, h2⟩
      · simp at h
    · simp at h
  · split at h <;> simp at h
  · split at h
    · split at h <;> simp at h
    · simp at h
  · simp at h
  · split at h
    · split at h <;> simp at h
    · simp at h
  · simp only [Option.map_eq_some_iff] at h
    obtain ⟨e, _, h⟩ := h
    simp at h

theorem SO1_op {o : Oper} {co : CO} (hc : CoOk P n ops o co) (h : SO1 P co fr F K) : AOpC co.k.calm P n o fr F K := by
  suffices AOpC co.k.calm P n o fr F (aft co K) from fun w G a hr => Oper.wp_mono' (fun a' w' hg => ⟨hg.1, hg.2.aft⟩) (this w G a hr)
  unfold SO1 at h
  split at h
  · rename_i f args hk
    obtain ⟨xs, hxs, hcall⟩ := h
    have hk' := hc.k
    rw [hk] at hk'
    obtain ⟨as, ats, fn, h1, h2, h3, h4, h5⟩ := call_inv hk'
    have hd := hc.d
    rw [hk] at hd ⊢
    simp only [CK.isStore, Bool.false_eq_true, false_and, true_and, false_or] at hd
    exact (AOp_call h1 h2 h3 h4 hd.1 hd.2 (by rw [evs_evL _ _ _ h5]; exact hxs) hcall).c
  · obtain ⟨fr', F', h1, h2⟩ := h
    exact stK_sound hc.k hc.d h1 h2

theorem unset_eq {o : Oper} {co : CO} (hc : CoOk P n ops o co) : (if co.k.isStore then fr else fr.del co.d) = fr.unset o.dst := by
  rcases hc.d with ⟨h1, h2⟩ | ⟨h1, h2, _⟩
  · rw [h2, if_pos h1]; rfl
  · rw [h2, h1]; rfl
theorem dst_lt {o : Oper} {co : CO} (hc : CoOk P n ops o co) : ∀ d, o.dst = some d → d < n := by
  intro d hd
  rcases hc.d with ⟨h1, h2⟩ | ⟨h1, h2, h3⟩
  · rw [h2] at hd; simp at hd
  · rw [h2] at hd; cases hd; exact h3

theorem compI_ok {i : Nat} {co : CO} (h : compI P n ops i = some co.strip) : ∃ o, ops[i]? = some o ∧ CoOk P n ops o co := by
  unfold compI at h
  rw [Option.bind_eq_some_iff] at h
  obtain ⟨o, h1, h2⟩ := h
  exact ⟨o, h1, compO_ok h2⟩

theorem SO1.mono {co : CO} {K' : Post} (h : SO1 P co fr F K) (hk : ∀ fr' F', K fr' F' → K' fr' F') : SO1 P co fr F K' := by
  unfold SO1 at h ⊢
  split at h
  · obtain ⟨xs, k1, k2⟩ := h
    refine ⟨xs, k1, fun w G vals a1 a2 a3 a4 a5 => (k2 w G vals a1 a2 a3 a4 a5).mono ?_⟩
    rintro e w' ⟨v, he, r, F', G', hq, hrest⟩
    refine ⟨v, he, r, F', G', ?_, hrest⟩
    cases F' with
    | nil => exact hq
    | cons f1 F1 =>
      obtain ⟨hq1, fr2, F2, hq2, hq3⟩ := hq
      exact ⟨hq1, fr2, F2, hq2, hk _ _ hq3⟩
  · obtain ⟨fr', F', k1, fr2, F2, k2, k3⟩ := h
    exact ⟨fr', F', k1, fr2, F2, k2, hk _ _ k3⟩

theorem compO_strip {o : Oper} {co : CO} (h : compO P n ops o = some co) : co.strip = co := by
  unfold compO at h
  split at h
  · simp at h
  · split at h
    · simp at h
    · split at h
      · simp only [Option.some.injEq] at h; subst h; rfl
      · split at h
        · split at h
          · simp only [Option.some.injEq] at h; subst h; rfl
          · simp at h
        · simp at h
theorem compI_ok' {i : Nat} {co : CO} (h : compI P n ops i = some co) : ∃ o, ops[i]? = some o ∧ CoOk P n ops o co := by
  unfold compI at h
  rw [Option.bind_eq_some_iff] at h
  obtain ⟨o, h1, h2⟩ := h
  exact ⟨o, h1, compO_ok (by rw [compO_strip h2]; exact h2)⟩

theorem AOps_of : ∀ (is : List Nat) (cl : List CO) (fr : Fr) (F : List Fr), is.mapM (compI P n ops) = some (cl.map CO.strip) → semL P cl fr F K → AOps P n ops is fr F K
  | [], cl, fr, F, hm, h => by
    simp at hm
    cases cl with
    | nil => exact AOps_nil h
    | cons c cl => simp at hm
  | i :: is, cl, fr, F, hm, h => by
    simp only [List.mapM_cons, Option.pure_def, Option.bind_eq_bind, Option.bind_eq_some_iff, Option.some.injEq] at hm
    obtain ⟨co', h1, cl', h2, h3⟩ := hm
    cases cl with
    | nil => simp at h3
    | cons co cl =>
    simp only [List.map_cons, List.cons.injEq] at h3
    obtain ⟨rfl, rfl⟩ := h3
    obtain ⟨o, ho, hc⟩ := compI_ok h1
    simp only [semL, SO] at h
    rcases hc.g with ⟨hg, hg'⟩ | ⟨j, want, s, oj, hg, hoj, hdj, hs, hg'⟩
    · rw [hg'] at h
      simp only at h
      exact AOps_cons ho hg (AOpC.op (SO1_op hc (h.mono fun fr2 F2 hq => AOps_of is cl fr2 F2 h2 hq)))
    · rw [hg'] at h
      simp only at h
      obtain ⟨b, hb, hyes, hno⟩ := h
      refine AOps_guard ho hg hoj hdj hs hb (dst_lt hc) (fun e => AOpC.op (SO1_op hc ((hyes e).mono fun fr2 F2 hq => AOps_of is cl fr2 F2 h2 hq))) (fun e => ?_)
      have h := hno e
      rw [unset_eq hc] at h
      exact AOps_of is cl _ F h2 h

end
end Go.Proofs.Ythlehngbadianaa.Ai
/- Regions that draw their order, by a plan. -/
set_option linter.unusedVariables false
set_option linter.unusedSimpArgs false
namespace Go.Proofs.Ythlehngbadianaa.Ai
open Go Go.RowKit

section
variable {P : Program} {n : Nat} {K : Post} {ops : Array Oper}

theorem consO_eq {a : Option CO} {l : Option (List CO)} {cl : List CO} (h : consO a l = some cl) : ∃ x r, a = some x ∧ l = some r ∧ cl = x :: r := by
  unfold consO at h
  split at h
  · simp only [Option.some.injEq] at h; exact ⟨_, _, rfl, rfl, h.symm⟩
  · simp at h

theorem wantedA_of {o : Oper} {fr : Fr} {j s : Nat} {want b : Bool} {oj : Oper} (hg : o.guard = some (j, want)) (hoj : ops[j]? = some oj) (hdj : oj.dst = some s) (hs : s < n) (hb : fr.sl.get s = some (.v (.bool b))) : wantedA ops n fr o = some (b == want) := by
  simp [wantedA, hg, hoj, hdj, hs, hb]

theorem takeOk_mono {calm : Nat → Bool} {listed : Array Bool} {i : Nat} {ld : Bool} (h : takeOk ops calm listed i ld = true) : takeOk ops calm listed i false = true := by
  unfold takeOk at h ⊢
  simp only [Bool.and_eq_true] at h ⊢
  refine ⟨h.1, ?_⟩
  have h2 := h.2
  split at h2
  · simp at h2
  · rename_i oi ho

    rw [List.all_eq_true] at h2 ⊢
    intro j hj
    have h3 := h2 j hj
    cases hoj : ops[j]? with
    | none => simp [hoj]
    | some oj =>
      simp only [hoj] at h3 ⊢
      cases ld <;> simp_all
      rcases h3 with h3 | h3 | h3
      · exact Or.inl h3
      · exact Or.inr (Or.inl h3)
      · exact Or.inr (Or.inr h3.1)

theorem compK_val {op : Op} {e : VE} (hh : compK P op = some (.val e)) : compV P op = some e := by
  unfold compK at hh
  split at hh
  · split at hh <;> simp at hh
  · unfold compLit at hh; split at hh
    · split at hh <;> simp at hh
    · simp at hh
  · unfold compApp at hh; split at hh
    · split at hh <;> simp at hh
    · simp at hh
  · unfold compCall at hh; split at hh
    · split at hh <;> simp at hh
    · simp at hh
  · split at hh <;> simp at hh
  · split at hh
    · split at hh <;> simp at hh
    · simp at hh
  · simp at hh
  · split at hh
    · split at hh <;> simp at hh
    · simp at hh
  · simpa using hh

/-- One step of a drawn region: a value may be taken first. -/
theorem step_take (hns : Region.noSelect ops = true) {fuel : Nat} {listed : Array Bool} {i : Nat} {o : Oper} {co : CO} {K' : Post} {fr : Fr} {F : List Fr} (ho : ops[i]? = some o) (hc : CoOk P n ops o co) (h1 : ∃ co', compI P n ops i = some co' ∧ co'.k = co.k) (htk : takeI P n ops listed i = true)
    (hnext : ∀ fr F, K' fr F → AAny P n ops (calmI P n ops) fuel (listed.setIfInBounds i true) fr F K) (h : SO P co fr F K') : AAny P n ops (calmI P n ops) (fuel + 1) listed fr F K := by
  obtain ⟨co', h1, hkk⟩ := h1
  simp only [takeI, h1] at htk
  rw [hkk] at htk
  cases hk : co.k with
  | val e =>
    rw [hk] at htk
    simp only [CK.valLd] at htk
    have hcv : compV P o.op = some e := compK_val (by rw [← hk]; exact hc.k)
    have hd := hc.d
    rw [hk] at hd
    simp only [CK.isStore, Bool.false_eq_true, false_and, true_and, false_or] at hd
    have step : ∀ (hh : SO1 P co fr F K'), ∃ z, veval e fr F = some z ∧ AAny P n ops (calmI P n ops) fuel (listed.setIfInBounds i true) (fr.set co.d z) F K := by
      intro hh
      unfold SO1 at hh
      rw [hk] at hh
      simp only [stK] at hh
      obtain ⟨fr', F', h5, fr2, F2, h6, h7⟩ := hh
      cases hv : veval e fr F with
      | none => rw [hv] at h5; simp [stV] at h5
      | some z =>
        rw [hv] at h5
        simp only [stV, Option.some.injEq, Prod.mk.injEq] at h5
        obtain ⟨rfl, rfl⟩ := h5
        exact ⟨z, rfl, AAny_ghost (aftS_ghost h6) (hnext fr2 F2 h7)⟩
    simp only [SO] at h
    rcases hc.g with ⟨hg, hg'⟩ | ⟨j, want, s, oj, hg, hoj, hdj, hs, hg'⟩
    · rw [hg'] at h
      obtain ⟨z, hz, hn⟩ := step h
      exact AAny_take ho hg hcv hd.1 hd.2 hns htk hz hn
    · rw [hg'] at h
      obtain ⟨b, hb, hyes, hno⟩ := h
      by_cases hbw : b = want
      · obtain ⟨z, hz, hn⟩ := step (hyes hbw)
        exact AAny_takeG ho (by rw [wantedA_of hg hoj hdj hs hb]; simp [hbw]) hcv hd.1 hd.2 hns htk hz hn
      · have hn := hno hbw
        rw [unset_eq hc] at hn
        exact AAny_drop (calm := calmI P n ops) ho (by rw [wantedA_of hg hoj hdj hs hb]; simp [hbw]) (dst_lt hc) hns (takeOk_mono htk) (hnext _ _ hn)
  | _ => rw [hk] at htk; simp [CK.valLd] at htk

/-- One operation that may come up. -/
theorem step_any {i : Nat} {o : Oper} {co : CO} {K' K2 : Post} {fr : Fr} {F : List Fr} (ho : ops[i]? = some o) (hc : CoOk P n ops o co) (h1 : ∃ co', compI P n ops i = some co' ∧ co'.k = co.k) (hnext : ∀ fr F, K' fr F → K2 fr F) (h : SO P co fr F K') : AStep P n ops (calmI P n ops) fr F i K2 := by
  obtain ⟨co', h1, hkk⟩ := h1
  refine ⟨o, ho, ?_⟩
  have hcalm : calmI P n ops i = co.k.calm := by simp only [calmI, h1, hkk]
  simp only [SO] at h
  rcases hc.g with ⟨hg, hg'⟩ | ⟨j, want, s, oj, hg, hoj, hdj, hs, hg'⟩
  · rw [hg'] at h
    left
    refine ⟨by simp [wantedA, hg], ?_⟩
    rw [hcalm]
    exact SO1_op hc (h.mono hnext)
  · rw [hg'] at h
    obtain ⟨b, hb, hyes, hno⟩ := h
    by_cases hbw : b = want
    · left
      refine ⟨by rw [wantedA_of hg hoj hdj hs hb]; simp [hbw], ?_⟩
      rw [hcalm]
      exact SO1_op hc ((hyes hbw).mono hnext)
    · right
      refine ⟨by rw [wantedA_of hg hoj hdj hs hb]; simp [hbw], dst_lt hc, ?_⟩
      have hn := hno hbw
      rw [unset_eq hc] at hn
      exact hnext _ _ hn

theorem AAny_of (hns : Region.noSelect ops = true) : ∀ (fuel : Nat) (listed : Array Bool) (cl : List CO) (fr : Fr) (F : List Fr), planD P n ops fuel listed = some (cl.map CO.strip) → semL P cl fr F K → AAny P n ops (calmI P n ops) fuel listed fr F K
  | 0, listed, cl, fr, F, hp, h => by
    simp only [planD] at hp
    split at hp
    · rename_i hr
      simp only [Option.some.injEq] at hp
      cases cl with
      | nil => exact AAny_done hr h
      | cons c cl => simp at hp
    · simp at hp
  | fuel + 1, listed, cl, fr, F, hp, h => by
    simp only [planD] at hp
    split at hp
    · rename_i hr
      simp only [Option.some.injEq] at hp
      cases cl with
      | nil => exact AAny_done hr h
      | cons c cl => simp at hp
    · rename_i hne
      split at hp
      · rename_i i hi
        obtain ⟨x, r, h1, h2, h3⟩ := consO_eq hp
        cases cl with
        | nil => simp at h3
        | cons co cl =>
        simp only [List.map_cons, List.cons.injEq] at h3
        obtain ⟨rfl, rfl⟩ := h3
        obtain ⟨o, ho, hc⟩ := compI_ok h1
        exact step_take hns ho hc ⟨_, h1, rfl⟩ (List.find?_some hi) (fun fr2 F2 hq => AAny_of hns fuel _ cl fr2 F2 h2 hq) h
      · split at hp
        · rename_i i hrs
          obtain ⟨x, r, h1, h2, h3⟩ := consO_eq hp
          cases cl with
          | nil => simp at h3
          | cons co cl =>
          simp only [List.map_cons, List.cons.injEq] at h3
          obtain ⟨rfl, rfl⟩ := h3
          obtain ⟨o, ho, hc⟩ := compI_ok h1
          refine AAny_all hrs (by simp) ?_
          intro i' hi'
          simp only [List.mem_singleton] at hi'
          subst hi'
          exact step_any ho hc ⟨_, h1, rfl⟩ (fun fr2 F2 hq => AAny_of hns fuel _ cl fr2 F2 h2 hq) h
        · simp at hp

theorem consT_eq {a : Option CO} {t : Option PT} {r : PT} (h : consT a t = some r) : ∃ x y, a = some x ∧ t = some y ∧ r = .op x y := by
  unfold consT at h
  split at h
  · simp only [Option.some.injEq] at h; exact ⟨_, _, rfl, rfl, h.symm⟩
  · simp at h
theorem altsT_mem {fr : Fr} {F : List Fr} : ∀ (l : List (Option PT)) (t : PT), altsT l = some t → semT P t fr F K → ∀ x ∈ l, ∃ t', x = some t' ∧ semT P t' fr F K
  | [], t, h, _, x, hx => by simp at hx
  | [y], t, h, hs, x, hx => by
    simp only [List.mem_singleton] at hx
    subst hx
    exact ⟨t, h, hs⟩
  | y :: z :: l, t, h, hs, x, hx => by
    simp only [altsT] at h
    split at h
    · rename_i a b hb
      simp only [Option.some.injEq] at h
      subst h
      rw [List.mem_cons] at hx
      rcases hx with rfl | hx
      · exact ⟨a, rfl, hs.1⟩
      · exact altsT_mem (z :: l) b hb hs.2 x hx
    · simp at h

theorem AAny_ofT (hns : Region.noSelect ops = true) : ∀ (fuel : Nat) (listed : Array Bool) (t : PT) (fr : Fr) (F : List Fr), planT P n ops fuel listed = some t → semT P t fr F K → AAny P n ops (calmI P n ops) fuel listed fr F K
  | 0, listed, t, fr, F, hp, h => by
    simp only [planT] at hp
    split at hp
    · rename_i hr
      simp only [Option.some.injEq] at hp
      subst hp
      exact AAny_done hr h
    · simp at hp
  | fuel + 1, listed, t, fr, F, hp, h => by
    simp only [planT] at hp
    split at hp
    · rename_i hr
      simp only [Option.some.injEq] at hp
      subst hp
      exact AAny_done hr h
    · rename_i hne
      split at hp
      · rename_i i hi
        obtain ⟨co, r, h1, h2, rfl⟩ := consT_eq hp
        obtain ⟨o, ho, hc⟩ := compI_ok' h1
        exact step_take hns ho hc ⟨_, h1, rfl⟩ (List.find?_some hi) (fun fr2 F2 hq => AAny_ofT hns fuel _ r fr2 F2 h2 hq) h
      · refine AAny_all rfl (fun e => hne e) ?_
        intro i hi
        obtain ⟨t', h3, h4⟩ := altsT_mem _ _ hp h _ (List.mem_map.2 ⟨i, hi, rfl⟩)
        obtain ⟨co, r, h1, h2, rfl⟩ := consT_eq h3
        obtain ⟨o, ho, hc⟩ := compI_ok' h1
        exact step_any ho hc ⟨_, h1, rfl⟩ (fun fr2 F2 hq => AAny_ofT hns fuel _ r fr2 F2 h2 hq) h4

/-! The two plans are one. -/
structure Bits (n m : Nat) (listed : Array Bool) : Prop where
  size : listed.size = n
  bit : ∀ j, listed.getD j false = m.testBit j
theorem Bits.zero (n : Nat) : Bits n 0 (Array.replicate n false) := ⟨by simp, fun j => by
  simp only [Array.getD_eq_getD_getElem?, Nat.zero_testBit, Array.getElem?_replicate]
  split <;> rfl⟩
theorem Bits.set {n m : Nat} {listed : Array Bool} (h : Bits n m listed) {i : Nat} (hi : i < n) : Bits n (m ||| 2 ^ i) (listed.setIfInBounds i true) := ⟨by simp [h.size], fun j => by
  rw [Nat.testBit_or, Nat.testBit_two_pow]
  by_cases hij : i = j
  · subst hij
    have : i < listed.size := by rw [h.size]; exact hi
    simp [this]
  · rw [getD_set_ne false hij, h.bit]
    simp [hij]⟩
theorem Bits.bitT {n m : Nat} {listed : Array Bool} (h : Bits n m listed) {j : Nat} (hj : j < n) : listed.getD j true = m.testBit j := by
  rw [← h.bit]
  have : j < listed.size := by rw [h.size]; exact hj
  simp [this]
theorem sub_iff {a m : Nat} : Nat.beq (a ||| m) m = true ↔ ∀ j, a.testBit j = true → m.testBit j = true := by
  rw [Nat.beq_eq]
  constructor
  · intro h j hj
    rw [← h, Nat.testBit_or, hj]; rfl
  · intro h
    refine Nat.eq_of_testBit_eq fun j => ?_
    rw [Nat.testBit_or]
    cases ha : a.testBit j
    · simp
    · simp [h j ha]
theorem onM_bit : ∀ (l : List Edge) (j : Nat), (onM l).testBit j = true ↔ ∃ e ∈ l, Region.binds .any e = true ∧ e.on = j
  | [], j => by simp [onM]
  | e :: l, j => by
    simp only [onM]
    split
    · rename_i hb
      rw [Nat.testBit_or, Bool.or_eq_true, onM_bit l j, Nat.testBit_two_pow]
      simp [hb]
    · rename_i hb
      rw [onM_bit l j]
      simp [hb]
theorem readyM_eq {m : Nat} {listed : Array Bool} (h : Bits ops.size m listed) : readyM ops m = Region.ready .any ops listed := by
  unfold readyM Region.ready
  refine List.filter_congr fun i hi => ?_
  have hlt : i < ops.size := List.mem_range.1 hi
  rw [h.bitT hlt]
  congr 1
  have ho : ops[i]? = some ops[i] := Array.getElem?_eq_getElem hlt
  simp only [rdyM, ho, Option.map_some, Option.getD_some]
  rw [Bool.eq_iff_iff, sub_iff, Array.all_eq_true_iff_forall_mem]
  constructor
  · intro h1 e he
    cases hb : Region.binds .any e
    · rfl
    · rw [h.bit]
      simpa using h1 e.on ((onM_bit _ _).2 ⟨e, by simpa using he, hb, rfl⟩)
  · intro h1 j hj
    obtain ⟨e, he, hb, rfl⟩ := (onM_bit _ _).1 hj
    have := h1 e (by simpa using he)
    rw [hb, h.bit] at this
    simpa using this
theorem badL_bit {calm : Nat → Bool} {i : Nat} {oi : Oper} {ld : Bool} : ∀ (l : List Nat) (k : Nat), (badL ops calm i oi ld l).testBit k = true ↔ k ∈ l ∧ ¬ (freeJ ops calm i oi ld k = true)
  | [], k => by simp [badL]
  | j :: l, k => by
    simp only [badL]
    split
    · rename_i hj
      rw [badL_bit l k, List.mem_cons]
      constructor
      · rintro ⟨h1, h2⟩; exact ⟨Or.inr h1, h2⟩
      · rintro ⟨rfl | h1, h2⟩
        · exact absurd hj h2
        · exact ⟨h1, h2⟩
    · rename_i hj
      rw [Nat.testBit_or, Bool.or_eq_true, badL_bit l k, Nat.testBit_two_pow, List.mem_cons]
      constructor
      · rintro (h1 | ⟨h1, h2⟩)
        · have : j = k := by simpa using h1
          subst this
          exact ⟨Or.inl rfl, hj⟩
        · exact ⟨Or.inr h1, h2⟩
      · rintro ⟨rfl | h1, h2⟩
        · left; simp
        · exact Or.inr ⟨h1, h2⟩
theorem apart_iff {a m k : Nat} {listed : Array Bool} (h : Bits k m listed) (ha : ∀ j, a.testBit j = true → j < k) : Nat.beq (a &&& m) 0 = (List.range k).all fun j => !(a.testBit j && listed.getD j true) := by
  rw [Bool.eq_iff_iff, Nat.beq_eq, List.all_eq_true]
  constructor
  · intro h1 j hj
    have h2 : (a &&& m).testBit j = false := by rw [h1]; simp
    rw [Nat.testBit_and] at h2
    rw [h.bitT (List.mem_range.1 hj), h2]; rfl
  · intro h1
    refine Nat.eq_of_testBit_eq fun j => ?_
    rw [Nat.testBit_and, Nat.zero_testBit]
    cases haj : a.testBit j with
    | false => rfl
    | true =>
      have hlt := ha j haj
      have h2 := h1 j (List.mem_range.2 hlt)
      rw [h.bitT hlt, haj] at h2
      simpa using h2
theorem takeM_eq {m : Nat} {listed : Array Bool} (h : Bits ops.size m listed) {i : Nat} (hi : i ∈ readyM ops m) : takeM P n ops m i = takeI P n ops listed i := by
  have hc : (Region.ready .any ops listed).contains i = true := by rw [← readyM_eq h]; simpa using hi
  unfold takeM badI takeI
  cases compI P n ops i with
  | none => rfl
  | some co =>
    cases hld : co.k.valLd with
    | none => simp [hld]
    | some ld =>
      simp only [hld]
      unfold takeOk
      rw [hc, Bool.true_and]
      cases ho : ops[i]? with
      | none => simp
      | some oi =>
        simp only []
        rw [apart_iff h (fun j hj => by obtain ⟨oj, hoj, _⟩ := depD_ok ops i j hj; exact (Array.getElem?_eq_some_iff.1 hoj).1)]
        congr 1
        rw [Bool.eq_iff_iff, sub_iff, List.all_eq_true]
        have hfr : ∀ j, (j == i || listed.getD j true || match ops[j]? with
            | some oj => (depD ops i).testBit j || (oi.apart ops oj && (!ld || calmI P n ops j))
            | none => true) = (freeJ ops (calmI P n ops) i oi ld j || listed.getD j true) := by
          intro j
          unfold freeJ
          cases (j == i) <;> cases listed.getD j true <;> simp <;> rfl
        constructor
        · intro h1 j hj
          have hlt := List.mem_range.1 hj
          have h2 := h1 j
          rw [badL_bit] at h2
          refine (hfr j).trans ?_
          rw [h.bitT hlt, Bool.or_eq_true]
          by_cases hb : freeJ ops (calmI P n ops) i oi ld j = true
          · exact Or.inl hb
          · exact Or.inr (h2 ⟨hj, hb⟩)
        · intro h1 j hj
          rw [badL_bit] at hj
          have h2 := (hfr j).symm.trans (h1 j hj.1)
          rw [h.bitT (List.mem_range.1 hj.1), Bool.or_eq_true] at h2
          rcases h2 with h2 | h2
          · exact absurd h2 hj.2
          · exact h2
theorem find_eq {m : Nat} {listed : Array Bool} (h : Bits ops.size m listed) : (readyM ops m).find? (takeM P n ops m) = (Region.ready .any ops listed).find? (takeI P n ops listed) := by
  rw [readyM_eq h]
  have key : ∀ l : List Nat, (∀ i ∈ l, takeM P n ops m i = takeI P n ops listed i) → l.find? (takeM P n ops m) = l.find? (takeI P n ops listed) := by
    intro l
    induction l with
    | nil => intro _; rfl
    | cons a l ih =>
      intro hl
      simp only [List.find?_cons, hl a (List.mem_cons_self ..)]
      rw [ih fun i hi => hl i (List.mem_cons_of_mem _ hi)]
  exact key _ fun i hi => takeM_eq h (by rw [readyM_eq h]; exact hi)
theorem ready_lt {listed : Array Bool} {i : Nat} (h : i ∈ Region.ready .any ops listed) : i < ops.size := by
  unfold Region.ready at h
  exact List.mem_range.1 (List.mem_filter.1 h).1
theorem planDM_eq : ∀ (fuel m : Nat) (listed : Array Bool), Bits ops.size m listed → planDM P n ops fuel m = planD P n ops fuel listed
  | 0, m, listed, h => by simp only [planDM, planD, readyM_eq h]
  | fuel + 1, m, listed, h => by
    have ih : ∀ i, i ∈ Region.ready .any ops listed → planDM P n ops fuel (m ||| 2 ^ i) = planD P n ops fuel (listed.setIfInBounds i true) := fun i hi => planDM_eq fuel _ _ (h.set (ready_lt hi))
    simp only [planDM, planD]
    have hf := find_eq (P := P) (n := n) h
    rw [readyM_eq h] at hf ⊢
    cases hr : Region.ready .any ops listed with
    | nil => rfl
    | cons a l =>
      rw [hr] at ih hf
      simp only []
      rw [hf]
      cases hfi : (a :: l).find? (takeI P n ops listed) with
      | some i => simp only []; rw [ih i (List.mem_of_find?_eq_some hfi)]
      | none =>
        cases l with
        | nil => simp only []; rw [ih a (List.mem_cons_self ..)]
        | cons b l => rfl
theorem planTM_eq : ∀ (fuel m : Nat) (listed : Array Bool), Bits ops.size m listed → planTM P n ops fuel m = planT P n ops fuel listed
  | 0, m, listed, h => by simp only [planTM, planT, readyM_eq h]
  | fuel + 1, m, listed, h => by
    have ih : ∀ i, i ∈ Region.ready .any ops listed → planTM P n ops fuel (m ||| 2 ^ i) = planT P n ops fuel (listed.setIfInBounds i true) := fun i hi => planTM_eq fuel _ _ (h.set (ready_lt hi))
    simp only [planTM, planT]
    have hf := find_eq (P := P) (n := n) h
    rw [readyM_eq h] at hf ⊢
    cases hr : Region.ready .any ops listed with
    | nil => rfl
    | cons a l =>
      rw [hr] at ih hf
      simp only []
      rw [hf]
      cases hfi : (a :: l).find? (takeI P n ops listed) with
      | some i => simp only []; rw [ih i (List.mem_of_find?_eq_some hfi)]
      | none =>
        simp only []
        congr 1
        exact List.map_congr_left fun i hi => by rw [ih i hi]

end
end Go.Proofs.Ythlehngbadianaa.Ai
/- The walk over a compact code. -/
set_option linter.unusedVariables false
set_option linter.unusedSimpArgs false
namespace Go.Proofs.Ythlehngbadianaa.Ai
open Go Go.RowKit

inductive Kn where
  | c (x : CC)
  | b (id : Nat)
  | o (l : List CO)
  | i (I : Post)
  | t (t : PT)

/-- Shown of each code that is compiled to it. -/
def CW (P : Program) (n : Nat) (x : CC) (fr : Fr) (F : List Fr) (Q : Exit → Post) : Prop := ∀ code, compC P n code = some x.strip → AW P n code fr F Q

def semQ (P : Program) (n : Nat) : List Kn → (Exit → Post) → Exit → Post
  | [], Q, e => Q e
  | .c x :: ks, Q, .normal => fun fr F => CW P n x fr F (semQ P n ks Q)
  | .c _ :: ks, Q, e => semQ P n ks Q e
  | .o l :: ks, Q, .normal => fun fr F => semL P l fr F (semQ P n ks Q .normal)
  | .o _ :: ks, Q, e => semQ P n ks Q e
  | .t t :: ks, Q, .normal => fun fr F => semT P t fr F (semQ P n ks Q .normal)
  | .t _ :: ks, Q, e => semQ P n ks Q e
  | .i I :: _, _, .normal => I
  | .i _ :: ks, Q, e => semQ P n ks Q e
  | .b id :: ks, Q, e => blockQ id (semQ P n ks Q) e

/-- What is to be shown: of the rest of a code, at a state. -/
def W (P : Program) (n : Nat) (ks : List Kn) (Q : Exit → Post) (fr : Fr) (F : List Fr) : Prop := semQ P n ks Q .normal fr F
def WS (P : Program) (n : Nat) (ks : List Kn) (Q : Exit → Post) : St → Prop
  | some (fr, F) => W P n ks Q fr F
  | none => False

def exitTo (id : Nat) : List Kn → Option (List Kn)
  | [] => none
  | .b id' :: ks => if id = id' then some ks else exitTo id ks
  | .c _ :: ks => exitTo id ks
  | .o _ :: ks => exitTo id ks
  | .i _ :: ks => exitTo id ks
  | .t _ :: ks => exitTo id ks

theorem semQ_exit {P : Program} {n : Nat} {id : Nat} : ∀ (ks : List Kn) (Q : Exit → Post), (∀ ks', exitTo id ks = some ks' → semQ P n ks Q (.exit id) = semQ P n ks' Q .normal) ∧ (exitTo id ks = none → semQ P n ks Q (.exit id) = Q (.exit id))
  | [], Q => ⟨by simp [exitTo], fun _ => rfl⟩
  | .c _ :: ks, Q => semQ_exit ks Q
  | .o _ :: ks, Q => semQ_exit ks Q
  | .i _ :: ks, Q => semQ_exit ks Q
  | .t _ :: ks, Q => semQ_exit ks Q
  | .b id' :: ks, Q => by
    obtain ⟨h1, h2⟩ := semQ_exit (P := P) (n := n) (id := id) ks Q
    simp only [exitTo, semQ, blockQ]
    by_cases h : id = id'
    · subst h; simp
    · rw [if_neg h, if_neg h]; exact ⟨h1, h2⟩
theorem semQ_ret {P : Program} {n : Nat} : ∀ (ks : List Kn) (Q : Exit → Post), semQ P n ks Q .ret = Q .ret
  | [], Q => rfl
  | .c _ :: ks, Q => semQ_ret ks Q
  | .o _ :: ks, Q => semQ_ret ks Q
  | .i _ :: ks, Q => semQ_ret ks Q
  | .t _ :: ks, Q => semQ_ret ks Q
  | .b id' :: ks, Q => by simp only [semQ, blockQ]; exact semQ_ret ks Q

section
variable {P : Program} {n : Nat} {ts : List Nat} {fr : Fr} {F : List Fr} {Q : Exit → Post} {ks : List Kn}

theorem CW.mono {x : CC} {Q' : Exit → Post} (h : CW P n x fr F Q) (hq : ∀ e fr' F', F'.length = F.length → Q e fr' F' → Q' e fr' F') : CW P n x fr F Q' := fun code hc => (h code hc).mono hq

theorem CW_skip (h : Q .normal fr F) : CW P n .skip fr F Q := by
  intro code hc
  cases code <;> (try simp only [compC, CC.strip] at hc)
  case skip => exact AW_skip h
  all_goals (first | simp at hc; done | (repeat' split at hc) <;> simp at hc; done | (rename_i dr; cases dr <;> simp only [compC] at hc <;> (repeat' split at hc) <;> simp at hc))
theorem CW_exit {id : Nat} (h : Q (.exit id) fr F) : CW P n (.exit id) fr F Q := by
  intro code hc
  cases code <;> (try simp only [compC, CC.strip] at hc)
  case exit => simp only [Option.some.injEq, CC.exit.injEq] at hc; subst hc; exact AW_exit h
  all_goals (first | simp at hc; done | (repeat' split at hc) <;> simp at hc; done | (rename_i dr; cases dr <;> simp only [compC] at hc <;> (repeat' split at hc) <;> simp at hc))
theorem CW_ret (h : Q .ret fr F) : CW P n .ret fr F Q := by
  intro code hc
  cases code <;> (try simp only [compC, CC.strip] at hc)
  case ret => exact AW_ret h
  all_goals (first | simp at hc; done | (repeat' split at hc) <;> simp at hc; done | (rename_i dr; cases dr <;> simp only [compC] at hc <;> (repeat' split at hc) <;> simp at hc))
theorem CW_seq {a b : CC} (h : CW P n a fr F (semQ P n (.c b :: ks) Q)) : CW P n (.seq a b) fr F (semQ P n ks Q) := by
  intro code hc
  cases code <;> (try simp only [compC, CC.strip] at hc)
  case seq x y =>
    split at hc
    · rename_i a' b' h1 h2
      simp only [Option.some.injEq, CC.seq.injEq] at hc
      obtain ⟨rfl, rfl⟩ := hc
      refine AW_seq ((h x h1).mono ?_)
      intro e fr' F' _ hq
      cases e <;> first | exact hq | exact hq y h2
    · simp at hc
  all_goals (first | simp at hc; done | (repeat' split at hc) <;> simp at hc; done | (rename_i dr; cases dr <;> simp only [compC] at hc <;> (repeat' split at hc) <;> simp at hc))
theorem CW_block {id : Nat} {a : CC} (h : CW P n a fr F (semQ P n (.b id :: ks) Q)) : CW P n (.block id a) fr F (semQ P n ks Q) := by
  intro code hc
  cases code <;> (try simp only [compC, CC.strip] at hc)
  case block id' x =>
    split at hc
    · rename_i a' h1
      simp only [Option.some.injEq, CC.block.injEq] at hc
      obtain ⟨rfl, rfl⟩ := hc
      exact AW_block ((h x h1).mono fun e fr' F' _ hq => hq)
    · simp at hc
  all_goals (first | simp at hc; done | (repeat' split at hc) <;> simp at hc; done | (rename_i dr; cases dr <;> simp only [compC] at hc <;> (repeat' split at hc) <;> simp at hc))
theorem CW_cond {c : Opd} {a b : CC} {t : Bool} (hc0 : fr.ev c = some (.v (.bool t))) (h1 : t = true → CW P n a fr F Q) (h2 : t = false → CW P n b fr F Q) : CW P n (.cond c a b) fr F Q := by
  intro code hc
  cases code <;> (try simp only [compC, CC.strip] at hc)
  case cond c' x y =>
    split at hc
    · rename_i oc a' b' e1 e2 e3
      simp only [Option.some.injEq, CC.cond.injEq] at hc
      obtain ⟨rfl, rfl, rfl⟩ := hc
      refine AW_cond e1 hc0 ?_
      cases t
      · exact h2 rfl y e3
      · exact h1 rfl x e2
    · simp at hc
  all_goals (first | simp at hc; done | (repeat' split at hc) <;> simp at hc; done | (rename_i dr; cases dr <;> simp only [compC] at hc <;> (repeat' split at hc) <;> simp at hc))
theorem CW_region (hm : P.follows .mixedOrders = true) {l : List CO} (h : semL P l fr F (Q .normal)) : CW P n (.region l) fr F Q := by
  intro code hc
  cases code <;> (try simp only [compC, CC.strip] at hc)
  case region id ops draw =>
    cases draw
    · simp only [compC] at hc
      split at hc
      · rename_i l' h1
        simp only [Option.some.injEq, CC.region.injEq] at hc
        subst hc
        exact AW_region (AOps_of _ l fr F h1 h)
      · simp at hc
    · simp only [compC] at hc
      split at hc
      · rename_i hns
        split at hc
        · rename_i l' h1
          simp only [Option.some.injEq, CC.region.injEq] at hc
          subst hc
          rw [planDM_eq _ _ _ (Bits.zero ops.size)] at h1
          exact AW_draw hm (calmI P n ops) (AAny_of hns _ _ l fr F h1 h)
        · split at hc <;> simp at hc
      · simp at hc
  all_goals (first | simp at hc; done | (repeat' split at hc) <;> simp at hc; done | (rename_i dr; cases dr <;> simp only [compC] at hc <;> (repeat' split at hc) <;> simp at hc))
theorem CW_drawn (hm : P.follows .mixedOrders = true) {t : PT} (h : semT P t fr F (Q .normal)) : CW P n (.drawn t) fr F Q := by
  intro code hc
  cases code <;> (try simp only [compC, CC.strip] at hc)
  case region id ops draw =>
    cases draw
    · simp only [compC] at hc
      split at hc <;> simp at hc
    · simp only [compC] at hc
      split at hc
      · rename_i hns
        split at hc
        · simp at hc
        · split at hc
          · rename_i t' h1
            simp only [Option.some.injEq, CC.drawn.injEq] at hc
            subst hc
            rw [planTM_eq _ _ _ (Bits.zero ops.size)] at h1
            exact AW_draw hm (calmI P n ops) (AAny_ofT hns _ _ t' fr F h1 h)
          · simp at hc
      · simp at hc
  all_goals (first | simp at hc; done | (repeat' split at hc) <;> simp at hc; done | (rename_i dr; cases dr <;> simp only [compC] at hc <;> (repeat' split at hc) <;> simp at hc))
theorem CW_ghost {x : CC} {fr' : Fr} {F' : List Fr} (hg : Ghost fr F fr' F') (h : CW P n x fr' F' Q) : CW P n x fr F Q := fun code hc => AW_ghost hg (h code hc)
end
end Go.Proofs.Ythlehngbadianaa.Ai
/- The walk, as a function that simp evaluates; loops, cuts, calls, functions. -/
set_option linter.unusedVariables false
set_option linter.unusedSimpArgs false
namespace Go.Proofs.Ythlehngbadianaa.Ai
open Go Go.RowKit

def szL (l : List CO) : Nat := l.length
def CC.sz : CC → Nat
  | .skip => 1
  | .exit _ => 1
  | .ret => 1
  | .seq a b => a.sz + b.sz + 3
  | .cond _ a b => a.sz + b.sz + 2
  | .block _ a => a.sz + 4
  | .region l => l.length + 3
  | .loop a => a.sz + 1
  | .drawn _ => 1
def Kn.sz : Kn → Nat
  | .c x => x.sz + 1
  | .b _ => 1
  | .o l => l.length + 1
  | .i _ => 1
  | .t _ => 1
def szK : List Kn → Nat
  | [] => 0
  | k :: ks => k.sz + szK ks
theorem exitTo_sz {id : Nat} : ∀ (ks : List Kn) {ks' : List Kn}, exitTo id ks = some ks' → szK ks' ≤ szK ks
  | [], ks', h => by simp [exitTo] at h
  | .c _ :: ks, ks', h => by have := exitTo_sz ks (ks' := ks') h; simp [szK]; omega
  | .o _ :: ks, ks', h => by have := exitTo_sz ks (ks' := ks') h; simp [szK]; omega
  | .i _ :: ks, ks', h => by have := exitTo_sz ks (ks' := ks') h; simp [szK]; omega
  | .t _ :: ks, ks', h => by have := exitTo_sz ks (ks' := ks') h; simp [szK]; omega
  | .b id' :: ks, ks', h => by
    simp only [exitTo] at h
    split at h
    · simp only [Option.some.injEq] at h; subst h; simp [szK]
    · have := exitTo_sz ks (ks' := ks') h; simp [szK]; omega

def callN (P : Program) (f : FuncId) (F : List Fr) (Q : AV → List Fr → Prop) : Option (List AV) → Prop
  | some xs => ACalls P f (liftL xs) F Q
  | none => False
/-- Behind an operation: what is left is to be shown. -/
def aftW (P : Program) (n : Nat) (ks : List Kn) (Q : Exit → Post) (d : Nat) (c : List Nat) (x : List Nat) : Post := fun fr F => WS P n ks Q (aftS d c x (some (fr, F)))
def retN (Q : Exit → Post) : St → Prop
  | some (fr, F) => Q .ret fr F
  | none => False
def opN (P : Program) (n : Nat) (ks : List Kn) (Q : Exit → Post) (o : CO) (fr : Fr) (F : List Fr) (rest : St → Prop) : Prop :=
  match o.k with
  | .call f args => callN P f (fr :: F) (callQ o.d (aftW P n ks Q o.d o.c o.x)) (evL fr args)
  | k => rest (aftS o.d o.c o.x (stK o.d k fr F))

def N (P : Program) (n : Nat) (ts : List Nat) (ks : List Kn) (Q : Exit → Post) (s : St) : Prop :=
  match ks, s with
  | _, none => False
  | [], some (fr, F) => Q .normal fr F
  | .i I :: _, some (fr, F) => I fr F
  | .b _ :: ks, some s => N P n ts ks Q (some s)
  | .o [] :: ks, some s => N P n ts ks Q (some s)
  | .o (o :: l) :: ks, some (fr, F) =>
    match o.g with
    | none => opN P n (.o l :: ks) Q o fr F (fun s => N P n ts (.o l :: ks) Q s)
    | some (g, want) => match fr.sl.get g with
      | some (.v (.bool true)) => if want = true then opN P n (.o l :: ks) Q o fr F (fun s => N P n ts (.o l :: ks) Q s) else N P n ts (.o l :: ks) Q (some (if o.k.isStore then fr else fr.del o.d, F))
      | some (.v (.bool false)) => if want = false then opN P n (.o l :: ks) Q o fr F (fun s => N P n ts (.o l :: ks) Q s) else N P n ts (.o l :: ks) Q (some (if o.k.isStore then fr else fr.del o.d, F))
      | _ => False
  | .c .skip :: ks, some s => N P n ts ks Q (some s)
  | .c (.exit id) :: ks, some (fr, F) =>
    match h : exitTo id ks with
    | some ks' => N P n ts ks' Q (some (fr, F))
    | none => Q (.exit id) fr F
  | .c .ret :: ks, some (fr, F) => retN Q (claimTs .loc ts (some (fr, F)))
  | .c (.seq a b) :: ks, some s => N P n ts (.c a :: .c b :: ks) Q (some s)
  | .c (.cond c a b) :: ks, some (fr, F) => match fr.ev c with
    | some (.v (.bool true)) => N P n ts (.c a :: ks) Q (some (fr, F))
    | some (.v (.bool false)) => N P n ts (.c b :: ks) Q (some (fr, F))
    | _ => False
  | .c (.block id a) :: ks, some s => N P n ts (.c a :: .b id :: ks) Q (some s)
  | .c (.region l) :: ks, some s => N P n ts (.o l :: ks) Q (some s)
  | .c (.loop a) :: ks, some (fr, F) => W P n (.c (.loop a) :: ks) Q fr F
  | .c (.drawn t) :: ks, some (fr, F) => W P n (.c (.drawn t) :: ks) Q fr F
  | .t pt :: ks, some (fr, F) => W P n (.t pt :: ks) Q fr F
termination_by szK ks
decreasing_by
  all_goals simp only [szK, Kn.sz, CC.sz, List.length_cons, List.length_nil]
  all_goals first
    | omega
    | (have := exitTo_sz _ h; omega)

section
variable {P : Program} {n : Nat} {ts : List Nat} {fr : Fr} {F : List Fr} {Q : Exit → Post} {ks : List Kn}

theorem aftW_aft {o : CO} {kn : List Kn} (h : aftW P n kn Q o.d o.c o.x fr F) : aft o (fun fr' F' => W P n kn Q fr' F') fr F := by
  unfold aftW at h
  cases hs : aftS o.d o.c o.x (some (fr, F)) with
  | none => rw [hs] at h; exact h.elim
  | some s =>
    obtain ⟨fr1, F1⟩ := s
    rw [hs] at h
    exact ⟨fr1, F1, hs, h⟩

theorem SO1_of_opN {o : CO} {rest : St → Prop} {kn : List Kn} (hrest : ∀ fr' F', rest (some (fr', F')) → W P n kn Q fr' F') (hnone : ¬ rest none) (h : opN P n kn Q o fr F rest) :
    SO1 P o fr F (fun fr' F' => W P n kn Q fr' F') := by
  obtain ⟨g, d, k, c, x⟩ := o
  cases k
  case call f args =>
    simp only [opN] at h
    simp only [SO1]
    cases he : evL fr args with
    | none => rw [he] at h; exact h.elim
    | some xs =>
      rw [he] at h
      refine ⟨xs, rfl, ?_⟩
      simp only [callN] at h
      intro w G vals a1 a2 a3 a4 a5
      refine (h w G vals a1 a2 a3 a4 a5).mono ?_
      rintro e w' ⟨v, he, r, F', G', hq, hrest⟩
      refine ⟨v, he, r, F', G', ?_, hrest⟩
      cases F' with
      | nil => exact hq
      | cons f1 F1 =>
        obtain ⟨hq1, hq2⟩ := hq
        exact ⟨hq1, aftW_aft (o := ⟨g, d, .call f args, c, x⟩) hq2⟩
  all_goals
    simp only [opN] at h
    simp only [SO1]
    generalize hst : stK d _ fr F = st at h ⊢
    cases st with
    | none => exact absurd h hnone
    | some s =>
      obtain ⟨fr1, F1⟩ := s
      generalize hs2 : aftS d c x (some (fr1, F1)) = st2 at h
      cases st2 with
      | none => exact absurd h hnone
      | some s2 =>
        obtain ⟨fr2, F2⟩ := s2
        exact ⟨fr1, F1, rfl, fr2, F2, hs2, hrest _ _ h⟩

/-- One operation, guarded or not. -/
theorem SO_of {o : CO} {kn : List Kn} {rest : St → Prop} (hnone : ¬ rest none) (hrest : ∀ fr' F', rest (some (fr', F')) → W P n kn Q fr' F')
    (h : match o.g with
    | none => opN P n kn Q o fr F rest
    | some (g, want) => match fr.sl.get g with
      | some (.v (.bool true)) => if want = true then opN P n kn Q o fr F rest else rest (some (if o.k.isStore then fr else fr.del o.d, F))
      | some (.v (.bool false)) => if want = false then opN P n kn Q o fr F rest else rest (some (if o.k.isStore then fr else fr.del o.d, F))
      | _ => False) : SO P o fr F (fun fr' F' => W P n kn Q fr' F') := by
  obtain ⟨og, d, k, c, x⟩ := o
  cases og with
  | none => exact SO1_of_opN hrest hnone h
  | some gw =>
    obtain ⟨g, want⟩ := gw
    simp only at h
    simp only [SO]
    split at h
    · rename_i hb
      refine ⟨true, hb, fun e => ?_, fun e => ?_⟩
      · rw [if_pos e.symm] at h
        exact SO1_of_opN hrest hnone h
      · rw [if_neg (fun e' => e e'.symm)] at h
        exact hrest _ _ h
    · rename_i hb
      refine ⟨false, hb, fun e => ?_, fun e => ?_⟩
      · rw [if_pos e.symm] at h
        exact SO1_of_opN hrest hnone h
      · rw [if_neg (fun e' => e e'.symm)] at h
        exact hrest _ _ h
    · exact h.elim

theorem N_sound (hm : P.follows .mixedOrders = true) (hret : ∀ fr F fr' F', claimTs .loc ts (some (fr, F)) = some (fr', F') → True) : ∀ (m : Nat) (ks : List Kn), szK ks ≤ m → ∀ fr F, N P n ts ks Q (some (fr, F)) → W P n ks Q fr F := by
  intro m
  induction m using Nat.strongRecOn with
  | _ m ih =>
  intro ks hm0 fr F h
  have next : ∀ ks', szK ks' < m → ∀ fr F, N P n ts ks' Q (some (fr, F)) → W P n ks' Q fr F := fun ks' hlt fr F h => ih (szK ks') hlt ks' (Nat.le_refl _) fr F h
  unfold N at h
  split at h
  · simp_all
  · rename_i hs
    obtain ⟨rfl, rfl⟩ : _ ∧ _ := by simpa using hs
    exact h
  · rename_i hs
    obtain ⟨rfl, rfl⟩ : _ ∧ _ := by simpa using hs
    exact h
  · rename_i id ks s hs
    obtain rfl : (fr, F) = s := by simpa using hs
    have := next ks (by simp [szK, Kn.sz] at hm0; omega) fr F h
    exact this
  · rename_i ks s hs
    obtain rfl : (fr, F) = s := by simpa using hs
    have := next ks (by simp [szK, Kn.sz] at hm0; omega) fr F h
    exact this
  · rename_i o l ks fr' F' hs
    obtain ⟨rfl, rfl⟩ : _ ∧ _ := by simpa using hs
    exact SO_of (kn := .o l :: ks) (rest := fun s => N P n ts (.o l :: ks) Q s) (by intro hh; unfold N at hh; exact hh) (fun fr' F' hh => next (.o l :: ks) (by simp [szK, Kn.sz] at hm0 ⊢; omega) fr' F' hh) h
  · rename_i ks s hs
    obtain rfl : (fr, F) = s := by simpa using hs
    exact CW_skip (next ks (by simp [szK, Kn.sz, CC.sz] at hm0; omega) fr F h)
  · rename_i id ks fr' F' hs
    obtain ⟨rfl, rfl⟩ : _ ∧ _ := by simpa using hs
    refine CW_exit ?_
    obtain ⟨h1, h2⟩ := semQ_exit (P := P) (n := n) (id := id) ks Q
    split at h
    · rename_i ks' he
      rw [h1 _ he]
      exact next ks' (by have := exitTo_sz _ he; simp [szK, Kn.sz, CC.sz] at hm0; omega) fr F h
    · rename_i he
      rw [h2 he]
      exact h
  · rename_i ks fr' F' hs
    obtain ⟨rfl, rfl⟩ : _ ∧ _ := by simpa using hs
    cases hc : claimTs .loc ts (some (fr, F)) with
    | none => rw [hc] at h; exact h.elim
    | some s =>
      obtain ⟨fr1, F1⟩ := s
      rw [hc] at h
      refine CW_ghost (claimTs_ghost _ hc) (CW_ret ?_)
      rw [semQ_ret]
      exact h
  · rename_i a b ks s hs
    obtain rfl : (fr, F) = s := by simpa using hs
    have := next (.c a :: .c b :: ks) (by simp [szK, Kn.sz, CC.sz] at hm0 ⊢; omega) fr F h
    exact CW_seq this
  · rename_i c a b ks fr' F' hs
    obtain ⟨rfl, rfl⟩ : _ ∧ _ := by simpa using hs
    split at h
    · rename_i ht
      exact CW_cond ht (fun _ => next (.c a :: ks) (by simp [szK, Kn.sz, CC.sz] at hm0 ⊢; omega) fr F h) (fun e => by simp at e)
    · rename_i ht
      exact CW_cond ht (fun e => by simp at e) (fun _ => next (.c b :: ks) (by simp [szK, Kn.sz, CC.sz] at hm0 ⊢; omega) fr F h)
    · exact h.elim
  · rename_i id a ks s hs
    obtain rfl : (fr, F) = s := by simpa using hs
    have := next (.c a :: .b id :: ks) (by simp [szK, Kn.sz, CC.sz] at hm0 ⊢; omega) fr F h
    exact CW_block this
  · rename_i l ks s hs
    obtain rfl : (fr, F) = s := by simpa using hs
    have := next (.o l :: ks) (by simp [szK, Kn.sz, CC.sz] at hm0 ⊢; omega) fr F h
    exact CW_region hm this
  · rename_i a ks fr' F' hs
    obtain ⟨rfl, rfl⟩ : _ ∧ _ := by simpa using hs
    exact h
  · rename_i a ks fr' F' hs
    obtain ⟨rfl, rfl⟩ : _ ∧ _ := by simpa using hs
    exact h
  · rename_i pt ks fr' F' hs
    obtain ⟨rfl, rfl⟩ : _ ∧ _ := by simpa using hs
    exact h

theorem W_of_N (ts : List Nat) (hm : P.follows .mixedOrders = true) (h : N P n ts ks Q (some (fr, F))) : W P n ks Q fr F := N_sound hm (fun _ _ _ _ _ => trivial) _ ks (Nat.le_refl _) fr F h

/-! Loops and cuts. -/
def Keep (s : Fr × List Fr) (fr : Fr) (F : List Fr) : Prop := s.2 = F ∧ s.1.rw = fr.rw ∧ (∀ e ∈ s.1.sl, fr.sl.get e.1 = some e.2) ∧ (∀ e ∈ s.1.bx, fr.bx.get e.1 = some e.2)
theorem Al.get_mem {l : Al} {k : Nat} {x : AV} (h : l.get k = some x) : (k, x) ∈ l := by
  induction l with
  | nil => simp [Al.get] at h
  | cons a l ih =>
    obtain ⟨b, y⟩ := a
    simp only [Al.get] at h
    split at h
    · rename_i e; simp only [Option.some.injEq] at h; subst e h; simp
    · exact List.mem_cons_of_mem _ (ih h)
theorem W_keep {s : Fr × List Fr} (hk : Keep s fr F) {x : CC} (h : W P n (.c x :: ks) Q s.1 s.2) : W P n (.c x :: ks) Q fr F := by
  obtain ⟨h1, h2, h3, h4⟩ := hk
  intro code hc
  refine AW_forget (fr' := s.1) h2 (fun k y hy => h3 _ (Al.get_mem hy)) (fun k y hy => h4 _ (Al.get_mem hy)) ?_
  rw [← h1]
  exact h code hc

/-- What holds at a loop's head, or at a cut: one of the states. -/
def Mid {α : Type} (st : α → Fr × List Fr) (ok : α → Prop) : Post := fun fr F => ∃ a, ok a ∧ Keep (st a) fr F

theorem W_loop {α : Type} (st : α → Fr × List Fr) (ok : α → Prop) (m : α → Nat) {x : CC} (h0 : Mid st ok fr F) (round : ∀ a, ok a → W P n (.c x :: .i (Mid st (fun b => ok b ∧ m b < m a)) :: ks) Q (st a).1 (st a).2) :
    W P n (.c (.loop x) :: ks) Q fr F := by
  intro code hc
  cases code <;> (try simp only [compC, CC.strip] at hc)
  case loop y =>
    split at hc
    · rename_i a' h1
      simp only [Option.some.injEq, CC.loop.injEq] at hc
      subst hc
      obtain ⟨a0, hok0, hk0⟩ := h0
      refine AW_loop (fun k fr' F' => ∃ a, ok a ∧ m a = k ∧ Keep (st a) fr' F') (m a0) ⟨a0, hok0, rfl, hk0⟩ ?_
      rintro k fr' F' _ ⟨a, hok, rfl, hk⟩
      have := W_keep hk (round a hok)
      refine (this y h1).mono ?_
      intro e fr2 F2 _ hq
      cases e with
      | normal =>
        obtain ⟨b, ⟨hb1, hb2⟩, hb3⟩ := hq
        exact ⟨m b, hb2, b, hb1, rfl, hb3⟩
      | exit id => exact hq
      | goto l => exact hq
      | ret => exact hq
      | panic c => exact hq
      | outgrown => exact hq
    · simp at hc
  all_goals (first | simp at hc; done | (repeat' split at hc) <;> simp at hc; done | (rename_i dr; cases dr <;> simp only [compC] at hc <;> (repeat' split at hc) <;> simp at hc))

theorem W_cut {α : Type} (st : α → Fr × List Fr) (ok : α → Prop) {x y : CC} (h1 : W P n (.c x :: .i (Mid st ok) :: .c y :: ks) Q fr F) (h2 : ∀ a, ok a → W P n (.c y :: ks) Q (st a).1 (st a).2) : W P n (.c x :: .c y :: ks) Q fr F := by
  refine CW.mono h1 ?_
  intro e fr' F' _ hq
  cases e with
  | normal =>
    obtain ⟨a, ha, hk⟩ := hq
    exact W_keep hk (h2 a ha)
  | exit id => exact hq
  | goto l => exact hq
  | ret => exact hq
  | panic c => exact hq
  | outgrown => exact hq

/-- What is to be shown of a plan. -/
def NT (P : Program) (n : Nat) : PT → List Kn → (Exit → Post) → St → Prop
  | _, _, _, none => False
  | .done, ks, Q, some (fr, F) => W P n ks Q fr F
  | .alt a b, ks, Q, some s => NT P n a ks Q (some s) ∧ NT P n b ks Q (some s)
  | .op o t, ks, Q, some (fr, F) =>
    match o.g with
    | none => opN P n (.t t :: ks) Q o fr F (fun s => NT P n t ks Q s)
    | some (g, want) => match fr.sl.get g with
      | some (.v (.bool true)) => if want = true then opN P n (.t t :: ks) Q o fr F (fun s => NT P n t ks Q s) else NT P n t ks Q (some (if o.k.isStore then fr else fr.del o.d, F))
      | some (.v (.bool false)) => if want = false then opN P n (.t t :: ks) Q o fr F (fun s => NT P n t ks Q s) else NT P n t ks Q (some (if o.k.isStore then fr else fr.del o.d, F))
      | _ => False
theorem NT_sound : ∀ (pt : PT) {fr : Fr} {F : List Fr}, NT P n pt ks Q (some (fr, F)) → W P n (.t pt :: ks) Q fr F
  | .done, fr, F, h => h
  | .alt a b, fr, F, h => ⟨NT_sound a h.1, NT_sound b h.2⟩
  | .op o pt, fr, F, h => SO_of (kn := .t pt :: ks) (rest := fun s => NT P n pt ks Q s) (by intro hh; cases pt <;> exact hh) (fun fr' F' hh => NT_sound pt hh) h

/-- A region that draws its order: whichever comes up, it ends in one of the states. -/
theorem W_drawn (hm : P.follows .mixedOrders = true) {t : PT} (h : W P n (.t t :: ks) Q fr F) : W P n (.c (.drawn t) :: ks) Q fr F := CW_drawn hm h
theorem W_drawnCut {α : Type} (hm : P.follows .mixedOrders = true) (st : α → Fr × List Fr) (ok : α → Prop) {t : PT} {y : CC} (h1 : W P n (.t t :: .i (Mid st ok) :: .c y :: ks) Q fr F) (h2 : ∀ a, ok a → W P n (.c y :: ks) Q (st a).1 (st a).2) : W P n (.c (.drawn t) :: .c y :: ks) Q fr F :=
  W_cut st ok (CW_drawn hm h1) h2

/-- A function's contract. -/
theorem ACalls_W {f : FuncId} {fn : Func} {code : Code} {cc : CC} {args : List AV} {Q : AV → List Fr → Prop} (ts : List Nat) (hf : P.funcs[f]? = some fn) (hb : fn.body = some code) (hcc : compC P n code = some cc.strip) (hnt : fn.ntmps = n) (hn : args.length ≤ n)
    (hres : fn.results = (ts.map ResultVar.tmp).toArray) (hnd : ts.Nodup) (hno : RES ∉ ts) (h : W P n [.c cc] (retQ ts Q) ⟨enterFr 0 args, [], true⟩ F) : ACalls P f args F Q :=
  ACalls_of hf hb (by omega) hres hnd hno (by rw [hnt]; exact h code hcc)

theorem ACalls.mono {f : FuncId} {args : List AV} {Q Q' : AV → List Fr → Prop} (h : ACalls P f args F Q) (hq : ∀ r F', F'.length = F.length → Q r F' → Q' r F') : ACalls P f args F Q' := by
  intro w G vals a1 a2 a3 a4 a5
  refine (h w G vals a1 a2 a3 a4 a5).mono ?_
  rintro e w' ⟨v, he, r, F', G', hq', hl, hrest⟩
  exact ⟨v, he, r, F', G', hq _ _ hl hq', hl, hrest⟩
end
end Go.Proofs.Ythlehngbadianaa.Ai
/- Nodes of a stack that is not known: how they are read and set. -/
set_option linter.unusedVariables false
set_option linter.unusedSimpArgs false
namespace Go.Proofs.Ythlehngbadianaa.Ai
open Go Go.RowKit

def nodeAt : List Fr → Nat → Base → List Hop → Option AV
  | [], _, _, _ => none
  | fr :: F, 0, b, path => (fr.root b).bind fun x => x.sub path
  | _ :: F, k + 1, b, path => nodeAt F k b path

theorem nodeAt_cons : ∀ (S : List Fr) (k : Nat) (b : Base) (j i : Nat) (path : List Hop), nodeAt S k b ((j, i) :: path) = (nodeAt S k b path).bind fun y => (y.cells[j]?).bind fun c => c.elem i
  | [], _, _, _, _, _ => rfl
  | fr :: F, 0, b, j, i, path => by
    simp only [nodeAt, AV.sub]
    cases fr.root b <;> simp
  | _ :: F, k + 1, b, j, i, path => nodeAt_cons F k b j i path
theorem nodeAt_append : ∀ (S : List Fr) (k : Nat) (b : Base) (r path : List Hop), nodeAt S k b (r ++ path) = (nodeAt S k b path).bind fun y => y.sub r
  | [], _, _, _, _ => rfl
  | fr :: F, 0, b, r, path => by
    simp only [nodeAt]
    cases h : fr.root b with
    | none => rfl
    | some x => simp [AV.sub_append]
  | _ :: F, k + 1, b, r, path => nodeAt_append F k b r path

theorem getp_node : ∀ (S : List Fr) (k : Nat) (p : Pl), getp S k p = (nodeAt S k p.base p.path).bind fun y => y.cells[p.j]?
  | [], _, _ => rfl
  | fr :: F, 0, p => by
    simp only [getp, nodeAt, AV.cellIn]
    cases fr.root p.base <;> simp
  | _ :: F, k + 1, p => getp_node F k p

theorem deref_upN : ∀ (S : List Fr) (k : Nat) (p : Pl), deref S (upN k (.ptr p)) = if inMem p.base p.path = true then (nodeAt S k p.base p.path).map fun y => (y, p, k) else none
  | [], 0, p => by simp [deref, upN, nodeAt]
  | [], k + 1, p => by simp [deref, upN, nodeAt]
  | fr :: F, 0, p => by simp only [deref, upN, nodeAt]
  | fr :: F, k + 1, p => by
    simp only [deref, upN, nodeAt, deref_upN F k p]
    split
    · cases nodeAt F k p.base p.path <;> rfl
    · rfl

def slRes (p : Pl) (es off len k : Nat) : Option AV → Option (List AV × Pl × Nat × Nat × Nat × Nat)
  | some (.own es' xs) => if es' = es ∧ off + len ≤ xs.length then some (xs, p, es, off, len, k) else none
  | _ => none
theorem slcell_upN : ∀ (S : List Fr) (k : Nat) (p : Pl) (es off len : Nat), slcell S (upN k (.sl p es off len)) = slRes p es off len k ((nodeAt S k p.base p.path).bind fun y => y.cells[p.j]?)
  | [], 0, p, es, off, len => by simp [slcell, upN, nodeAt, slRes]
  | [], k + 1, p, es, off, len => by simp [slcell, upN, nodeAt, slRes]
  | fr :: F, 0, p, es, off, len => by
    simp only [slcell, upN, nodeAt, AV.cellIn]
    cases fr.root p.base with
    | none => rfl
    | some x =>
      simp only [Option.bind_some]
      cases x.sub p.path with
      | none => rfl
      | some y =>
        simp only [Option.bind_some]
        cases y.cells[p.j]? with
        | none => rfl
        | some c => cases c <;> rfl
  | fr :: F, k + 1, p, es, off, len => by
    simp only [slcell, upN, nodeAt, slcell_upN F k p es off len]
    unfold slRes
    split
    · split <;> simp
    · rfl

theorem asRef_upN (k : Nat) (x : AV) : asRef (upN k x) = (asRef x).map fun r => (r.1 + k, r.2) := by
  induction k with
  | zero => rw [upN]; cases asRef x <;> rfl
  | succ k ih =>
    rw [upN, asRef, ih]
    cases asRef x <;> rfl
theorem addrOff_upN' (k : Nat) (x : AV) (m : Nat) : addrOff (upN k x) m = upN k (addrOff x m) := by
  induction k with
  | zero => rfl
  | succ k ih => simp only [upN, addrOff, ih]
theorem slOff_upN' (k : Nat) (x : AV) (l m : Nat) : slOff (upN k x) l m = upN k (slOff x l m) := by
  induction k with
  | zero => rfl
  | succ k ih => simp only [upN, slOff, ih]
theorem slElem_upN' (k : Nat) (x : AV) (i : Nat) : slElem (upN k x) i = upN k (slElem x i) := by
  induction k with
  | zero => rfl
  | succ k ih => simp only [upN, slElem, ih]
theorem nilsl_upN (k : Nat) (x : AV) : nilsl (upN k x) = nilsl x := by
  induction k with
  | zero => rfl
  | succ k ih => simp only [upN, nilsl, ih]
theorem liftN_sl (k : Nat) (p : Pl) (es off len : Nat) : liftN k (.sl p es off len) = upN k (.sl p es off len) := by
  cases k with
  | zero => rfl
  | succ k => simp only [liftN, upN, liftN_sl k]
theorem liftN_ptr (k : Nat) (p : Pl) : liftN k (.ptr p) = upN k (.ptr p) := by
  cases k with
  | zero => rfl
  | succ k => simp only [liftN, upN, liftN_ptr k]
theorem liftN_v (k : Nat) (v : Value) : liftN k (.v v) = .v v := by cases k <;> rfl
theorem liftN_junk (k : Nat) : liftN k .junk = .junk := by cases k <;> rfl
theorem hitK_upN (H : AV → Bool) (k : Nat) (x : AV) : hitK H k (upN k x) = hitK H 0 x := by
  induction k with
  | zero => rfl
  | succ k ih => simp only [upN, hitK, ih]
theorem upN_succ (k : Nat) (x : AV) : upN (k + 1) x = .up (upN k x) := rfl
theorem upN_zero (x : AV) : upN 0 x = x := rfl
theorem unl_upN (k : Nat) (x : AV) : unl (upN (k + 1) x) = upN k x := by simp [upN, unl]
theorem lift_sl (p : Pl) (es off len : Nat) : lift (.sl p es off len) = .up (.sl p es off len) := rfl
theorem lift_upN : ∀ (k : Nat) (x : AV), lift x = .up x → lift (upN k x) = .up (upN k x)
  | 0, x, h => h
  | k + 1, x, h => rfl
theorem lift_upN_ptr (k : Nat) (p : Pl) : lift (upN k (.ptr p)) = .up (upN k (.ptr p)) := lift_upN k _ rfl
theorem lift_upN_sl (k : Nat) (p : Pl) (es off len : Nat) : lift (upN k (.sl p es off len)) = .up (upN k (.sl p es off len)) := lift_upN k _ rfl

/-! Setting. -/
def setN : List Fr → Nat → Base → List Hop → AV → List Fr
  | [], _, _, _, _ => []
  | fr :: F, 0, b, path, y => fr.modr b (fun x => x.setSub path y) :: F
  | fr :: F, k + 1, b, path, y => fr :: setN F k b path y
def updN (S : List Fr) (k : Nat) (b : Base) (path : List Hop) (y : AV) : List Fr := setN (killS (deep b path) k S) k b path y

theorem updN_cons (fr : Fr) (F : List Fr) (k : Nat) (b : Base) (path : List Hop) (y : AV) : updN (fr :: F) (k + 1) b path y = fr.drop (deep b path) (k + 1) :: updN F k b path y := rfl
theorem updN_zero (fr : Fr) (F : List Fr) (b : Base) (path : List Hop) (y : AV) : updN (fr :: F) 0 b path y = (fr.drop (deep b path) 0).modr b (fun x => x.setSub path y) :: F := rfl

theorem AV.setCell_setCell (x : AV) (j : Nat) (c c' : AV) (hc : c.one = true) : (x.setCell j c).setCell j c' = x.setCell j c' := by
  cases hx : x.one with
  | false => cases x <;> simp [AV.one] at hx <;> simp [AV.setCell]
  | true =>
    have h : ∀ d, x.setCell j d = if j = 0 then d else x := by intro d; cases x <;> first | rfl | simp [AV.one] at hx
    rw [h, h]
    cases j with
    | zero => simp; cases c <;> first | rfl | simp [AV.one] at hc
    | succ j => simp [h]
theorem AV.setElem_setElem (c : AV) (i : Nat) (x y : AV) : (c.setElem i x).setElem i y = c.setElem i y := by
  cases c
  case own es xs => simp [AV.setElem]
  case obj z => by_cases hi : i = 0 <;> simp [AV.setElem, hi]
  all_goals rfl
theorem AV.setSub_setSub (x : AV) (path : List Hop) : ∀ (z y y' : AV), x.sub path = some z → (x.setSub path y).setSub path y' = x.setSub path y' := by
  induction path with
  | nil => intros; rfl
  | cons a par ih =>
    obtain ⟨j, i⟩ := a
    intro z y y' hz
    simp only [AV.sub, Option.bind_eq_some_iff] at hz
    obtain ⟨z0, hz0, c, hc, he⟩ := hz
    have hone := AV.elem_one he
    have hone' : (c.setElem i y).one = true := by rw [AV.one_setElem]; exact hone
    have e1 : x.setSub ((j, i) :: par) y = x.setSub par (z0.setCell j (c.setElem i y)) := by simp only [AV.setSub, hz0, hc]
    have e2 : x.setSub ((j, i) :: par) y' = x.setSub par (z0.setCell j (c.setElem i y')) := by simp only [AV.setSub, hz0, hc]
    rw [e1, e2]
    have h1 := AV.sub_setSub_same x par z0 (z0.setCell j (c.setElem i y)) hz0
    have hj : j < z0.cells.length := (List.getElem?_eq_some_iff.1 hc).1
    have h2 : (z0.setCell j (c.setElem i y)).cells[j]? = some (c.setElem i y) := by rw [AV.cells_setCell _ _ _ hone', List.getElem?_set_self hj]
    rw [show (x.setSub par (z0.setCell j (c.setElem i y))).setSub ((j, i) :: par) y' = (x.setSub par (z0.setCell j (c.setElem i y))).setSub par ((z0.setCell j (c.setElem i y)).setCell j ((c.setElem i y).setElem i y')) by simp only [AV.setSub, h1, h2]]
    rw [ih z0 _ _ hz0, AV.setCell_setCell _ _ _ _ hone', AV.setElem_setElem]
theorem AV.setSub_append (x : AV) (path : List Hop) (y0 : AV) (h : x.sub path = some y0) : ∀ (r : List Hop) (z u : AV), y0.sub r = some z → x.setSub (r ++ path) u = x.setSub path (y0.setSub r u)
  | [], z, u, _ => rfl
  | (j, i) :: r, z, u, hz => by
    simp only [AV.sub, Option.bind_eq_some_iff] at hz
    obtain ⟨z0, hz0, c, hc, he⟩ := hz
    have h1 : x.sub (r ++ path) = some z0 := by rw [AV.sub_append, h]; exact hz0
    simp only [List.cons_append, AV.setSub, h1, hc, hz0]
    exact AV.setSub_append x path y0 h r z0 _ hz0
theorem AV.setCell_self (x : AV) (j : Nat) (c : AV) (h : x.cells[j]? = some c) : x.setCell j c = x := by
  have hl : ∀ cs : List AV, cs[j]? = some c → cs.set j c = cs := by
    intro cs hc
    apply List.ext_getElem?
    intro i
    rw [List.getElem?_set]
    by_cases e : j = i
    · subst e; rw [if_pos rfl, if_pos (List.getElem?_eq_some_iff.1 hc).1, hc]
    · simp [e]
  cases hx : x.one with
  | false => cases x <;> simp [AV.one] at hx <;> simp only [AV.setCell, AV.cells] at h ⊢ <;> rw [hl _ h]
  | true =>
    rw [AV.cells_one hx] at h
    cases j with
    | zero =>
      simp at h; subst h
      cases x <;> first | rfl | simp [AV.one] at hx
    | succ j => simp at h
theorem AV.setElem_self (c : AV) (i : Nat) (x : AV) (h : c.elem i = some x) : c.setElem i x = c := by
  cases c <;> simp only [AV.elem] at h <;> try (simp at h; done)
  case own es xs =>
    simp only [AV.setElem]
    congr 1
    apply List.ext_getElem?
    intro k
    rw [List.getElem?_set]
    by_cases e : i = k
    · subst e; rw [if_pos rfl, if_pos (List.getElem?_eq_some_iff.1 h).1, h]
    · simp [e]
  case obj z =>
    split at h
    · rename_i hi; simp at h; subst h; simp [AV.setElem, hi]
    · simp at h
theorem AV.setSub_self (x : AV) : ∀ (path : List Hop) (y : AV), x.sub path = some y → x.setSub path y = x
  | [], y, h => by simp [AV.sub] at h; subst h; rfl
  | (j, i) :: par, y, h => by
    simp only [AV.sub, Option.bind_eq_some_iff] at h
    obtain ⟨z0, hz0, c, hc, he⟩ := h
    simp only [AV.setSub, hz0, hc]
    rw [AV.setElem_self _ _ _ he, AV.setCell_self _ _ _ hc]
    exact AV.setSub_self x par z0 hz0

/-- No cell of it is a reference. -/
def refless (y : AV) : Bool := y.cells.all fun c => match c with
  | .v _ => true
  | .junk => true
  | .own _ _ => true
  | .obj _ => true
  | _ => false
theorem refless_drop {y : AV} (h : refless y = true) (H : AV → Bool) (k : Nat) : dropV H k y = y := by
  have key : ∀ c ∈ y.cells, dropC H k c = c := by
    intro c hc
    have := List.all_eq_true.1 h c hc
    cases c <;> simp at this <;> simp [dropC, hitK] <;> cases k <;> simp [hitK]
  cases hy : y.one with
  | true =>
    have := key y (by rw [AV.cells_one hy]; simp)
    cases y <;> first | exact this | simp [AV.one] at hy
  | false =>
    cases y <;> simp [AV.one] at hy <;> simp only [dropV] <;> congr 1 <;> exact (List.map_congr_left key).trans (List.map_id _)

mutual
theorem hitK_le {H D : AV → Bool} (h : ∀ x, H x = true → D x = true) : ∀ (k : Nat) (x : AV), hitK H k x = true → hitK D k x = true
  | 0, .sl p es off len, hh => by simp only [hitK] at hh ⊢; exact h _ hh
  | 0, .sa p es len cap, hh => by simp only [hitK] at hh ⊢; exact h _ hh
  | 0, .ptr p, hh => by simp only [hitK] at hh ⊢; exact h _ hh
  | k + 1, .up x, hh => by simp only [hitK] at hh ⊢; exact hitK_le h k x hh
  | 0, .fn f caps, hh => by simp only [hitK] at hh ⊢; exact hitKs_le h 0 caps hh
  | k + 1, .fn f caps, hh => by simp only [hitK] at hh ⊢; exact hitKs_le h (k + 1) caps hh
  | 0, .up x, hh => by simp [hitK] at hh
  | k + 1, .sl p es off len, hh => by simp [hitK] at hh
  | k + 1, .sa p es len cap, hh => by simp [hitK] at hh
  | k + 1, .ptr p, hh => by simp [hitK] at hh
  | 0, .v _, hh => by simp [hitK] at hh
  | k + 1, .v _, hh => by simp [hitK] at hh
  | 0, .junk, hh => by simp [hitK] at hh
  | k + 1, .junk, hh => by simp [hitK] at hh
  | 0, .agg _, hh => by simp [hitK] at hh
  | k + 1, .agg _, hh => by simp [hitK] at hh
  | 0, .tup _ _, hh => by simp [hitK] at hh
  | k + 1, .tup _ _, hh => by simp [hitK] at hh
  | 0, .own _ _, hh => by simp [hitK] at hh
  | k + 1, .own _ _, hh => by simp [hitK] at hh
  | 0, .obj _, hh => by simp [hitK] at hh
  | k + 1, .obj _, hh => by simp [hitK] at hh
  | 0, .lapp _ _ _ _ _, hh => by simp [hitK] at hh
  | k + 1, .lapp _ _ _ _ _, hh => by simp [hitK] at hh
theorem hitKs_le {H D : AV → Bool} (h : ∀ x, H x = true → D x = true) : ∀ (k : Nat) (cs : List AV), hitKs H k cs = true → hitKs D k cs = true
  | k, [], hh => by simp [hitKs] at hh
  | k, c :: cs, hh => by
    simp only [hitKs, Bool.or_eq_true] at hh ⊢
    rcases hh with hh | hh
    · exact Or.inl (hitK_le h k c hh)
    · exact Or.inr (hitKs_le h k cs hh)
end

theorem dropC_dropC {H D : AV → Bool} (h : ∀ x, H x = true → D x = true) (k : Nat) (c : AV) : dropC H k (dropC D k c) = dropC D k c := by
  unfold dropC
  by_cases hd : hitK D k c = true
  · simp only [hd, if_true]
    cases k <;> simp [hitK]
  · have : hitK H k c = false := by
      cases hh : hitK H k c with
      | false => rfl
      | true => exact absurd (hitK_le h k c hh) hd
    simp [hd, this]
theorem dropV_dropV {H D : AV → Bool} (h : ∀ x, H x = true → D x = true) (k : Nat) (x : AV) : dropV H k (dropV D k x) = dropV D k x := by
  cases hx : x.one with
  | false => cases x <;> simp [AV.one] at hx <;> simp [dropV, dropC_dropC h, Function.comp_def]
  | true =>
    have e1 : dropV D k x = dropC D k x := by cases x <;> first | rfl | simp [AV.one] at hx
    have h2 : (dropC D k x).one = true := by rw [dropC_one]; exact hx
    have e2 : dropV H k (dropC D k x) = dropC H k (dropC D k x) := by
      generalize dropC D k x = z at h2
      cases z <;> first | rfl | simp [AV.one] at h2
    rw [e1, e2, dropC_dropC h]
theorem drop_drop {H D : AV → Bool} (h : ∀ x, H x = true → D x = true) (k : Nat) (fr : Fr) : (fr.drop D k).drop H k = fr.drop D k := by
  simp only [Fr.drop, Al.mapv, List.map_map]
  congr 1 <;> exact List.map_congr_left fun e _ => by simp [dropV_dropV h]
theorem killS_killS {H D : AV → Bool} (h : ∀ x, H x = true → D x = true) : ∀ (k : Nat) (S : List Fr), killS H k (killS D k S) = killS D k S
  | _, [] => by simp [killS]
  | 0, fr :: F => by simp only [killS, drop_drop h]
  | k + 1, fr :: F => by simp only [killS, drop_drop h, killS_killS h k F]

theorem dropV_setSub_deep (H : AV → Bool) (x : AV) (a : Hop) (par : List Hop) (y z : AV) (hz : x.sub (a :: par) = some z) : dropV H 0 (x.setSub (a :: par) y) = (dropV H 0 x).setSub (a :: par) y := by
  induction par generalizing a y z with
  | nil =>
    obtain ⟨j, i⟩ := a
    simp only [AV.sub, Option.bind_some, Option.bind_eq_some_iff] at hz
    obtain ⟨c, hc, he⟩ := hz
    simp only [AV.setSub, AV.sub]
    rw [dropV_cells, List.getElem?_map, hc]
    simp only [Option.map_some]
    have hd : dropC H 0 c = c := by cases c <;> simp [AV.elem] at he <;> simp [dropC, hitK]
    have hd2 : dropC H 0 (c.setElem i y) = c.setElem i y := by
      cases c <;> simp [AV.elem] at he
      · simp [AV.setElem, dropC, hitK]
      · simp [AV.setElem, he.1, dropC, hitK]
    rw [hd]
    cases hx : x.one with
    | false => cases x <;> simp [AV.one] at hx <;> simp only [AV.setCell, dropV, List.map_set, hd2]
    | true =>
      rw [AV.cells_one hx] at hc
      cases j with
      | succ j => simp at hc
      | zero =>
        simp at hc; subst hc
        have e0 : ∀ d, x.setCell 0 d = d := by intro d; cases x <;> first | rfl | simp [AV.one] at hx
        have e1 : dropV H 0 x = x := by
          have : dropV H 0 x = dropC H 0 x := by cases x <;> first | rfl | simp [AV.one] at hx
          rw [this, hd]
        rw [e1, e0]
        have h2 : (x.setElem i y).one = true := by rw [AV.one_setElem]; exact hx
        have : dropV H 0 (x.setElem i y) = dropC H 0 (x.setElem i y) := by
          generalize x.setElem i y = z at h2
          cases z <;> first | rfl | simp [AV.one] at h2
        rw [this, hd2]
  | cons a2 par ih =>
    obtain ⟨j, i⟩ := a
    rw [AV.sub] at hz
    simp only [Option.bind_eq_some_iff] at hz
    obtain ⟨z0, hz0, c, hc, he⟩ := hz
    have hs : (dropV H 0 x).sub (a2 :: par) = x.sub (a2 :: par) := dropV_sub H 0 x _ (by simp)
    rw [AV.setSub, AV.setSub, hs]
    simp only [hz0, hc]
    exact ih a2 _ z0 hz0

/-- Forgetting goes past a set node, if that one has no references. -/
theorem dropV_setSub (H : AV → Bool) (x : AV) (path : List Hop) (y z : AV) (hz : x.sub path = some z) (hy : refless y = true) : dropV H 0 (x.setSub path y) = (dropV H 0 x).setSub path y := by
  cases path with
  | nil => exact refless_drop hy H 0
  | cons a par => exact dropV_setSub_deep H x a par y z hz
end Go.Proofs.Ythlehngbadianaa.Ai
/- Nodes of a stack that is not known: what is set, and forgotten, is one step. -/
set_option linter.unusedVariables false
set_option linter.unusedSimpArgs false
namespace Go.Proofs.Ythlehngbadianaa.Ai
open Go Go.RowKit

theorem Al.modv_eq {l : Al} {k : Nat} {x : AV} (hx : l.get k = some x) {g g' : AV → AV} (h : g x = g' x) : l.modv k g = l.modv k g' := by
  induction l with
  | nil => rfl
  | cons a l ih =>
    obtain ⟨a, y⟩ := a
    simp only [Al.get] at hx
    simp only [Al.modv]
    split
    · rename_i e; rw [if_pos e] at hx; simp at hx; subst hx; rw [h]
    · rename_i e; rw [if_neg e] at hx; rw [ih hx]
theorem Al.modv_self {l : Al} {k : Nat} {x : AV} (hx : l.get k = some x) {g : AV → AV} (h : g x = x) : l.modv k g = l := by
  induction l with
  | nil => rfl
  | cons a l ih =>
    obtain ⟨a, y⟩ := a
    simp only [Al.get] at hx
    simp only [Al.modv]
    split
    · rename_i e; rw [if_pos e] at hx; simp at hx; subst hx; rw [h]
    · rename_i e; rw [if_neg e] at hx; rw [ih hx]
theorem Al.modv_modv (l : Al) (k : Nat) (g g' : AV → AV) : (l.modv k g).modv k g' = l.modv k (fun x => g' (g x)) := by
  induction l with
  | nil => rfl
  | cons a l ih =>
    obtain ⟨a, y⟩ := a
    simp only [Al.modv]
    split
    · rename_i e; simp [Al.modv, e]
    · rename_i e; simp [Al.modv, e, ih]
theorem Al.mapv_modv {l : Al} {k : Nat} {x : AV} (hx : l.get k = some x) {g h g' : AV → AV} (e : h (g x) = g' (h x)) : (l.modv k g).mapv h = (l.mapv h).modv k g' := by
  induction l with
  | nil => rfl
  | cons a l ih =>
    obtain ⟨a, y⟩ := a
    simp only [Al.get] at hx
    simp only [Al.modv, Al.mapv, List.map_cons] at ih ⊢
    split
    · rename_i ea; rw [if_pos ea] at hx; simp at hx; subst hx; simp [ea, e, Al.modv]
    · rename_i ea; rw [if_neg ea] at hx; simp only [List.map_cons, Al.modv, ea, if_false]; rw [ih hx]

theorem Fr.modr_eq {fr : Fr} {b : Base} {x : AV} (hx : fr.root b = some x) {g g' : AV → AV} (h : g x = g' x) : fr.modr b g = fr.modr b g' := by
  cases b <;> simp only [Fr.modr, Fr.root] at hx ⊢ <;> rw [Al.modv_eq hx h]
theorem Fr.modr_self {fr : Fr} {b : Base} {x : AV} (hx : fr.root b = some x) {g : AV → AV} (h : g x = x) : fr.modr b g = fr := by
  cases b <;> simp only [Fr.modr, Fr.root] at hx ⊢ <;> rw [Al.modv_self hx h]
theorem Fr.modr_modr (fr : Fr) (b : Base) (g g' : AV → AV) : (fr.modr b g).modr b g' = fr.modr b (fun x => g' (g x)) := by
  cases b <;> simp only [Fr.modr, Al.modv_modv]
theorem Fr.drop_modr {fr : Fr} {b : Base} {x : AV} (hx : fr.root b = some x) {H : AV → Bool} {k : Nat} {g g' : AV → AV} (e : dropV H k (g x) = g' (dropV H k x)) : (fr.modr b g).drop H k = (fr.drop H k).modr b g' := by
  cases b <;> simp only [Fr.modr, Fr.root, Fr.drop] at hx ⊢ <;> rw [Al.mapv_modv hx e]

theorem nodeAt_killS {H : AV → Bool} : ∀ (S : List Fr) (k : Nat) (b : Base) (path : List Hop) (y : AV), nodeAt S k b path = some y → refless y = true → nodeAt (killS H k S) k b path = some y
  | [], _, _, _, _, h, _ => by simp [nodeAt] at h
  | fr :: F, 0, b, path, y, h, hy => by
    simp only [nodeAt, killS, Fr.root_drop] at h ⊢
    rw [Option.bind_eq_some_iff] at h
    obtain ⟨x, hx, hs⟩ := h
    rw [hx]
    cases path with
    | nil =>
      simp only [AV.sub, Option.some.injEq] at hs
      subst hs
      simp [AV.sub, refless_drop hy]
    | cons a par => simp [dropV_sub H 0 x (a :: par) (by simp), hs]
  | fr :: F, k + 1, b, path, y, h, hy => nodeAt_killS F k b path y h hy
theorem nodeAt_setN : ∀ (S : List Fr) (k : Nat) (b : Base) (path : List Hop) (y0 y : AV), nodeAt S k b path = some y0 → nodeAt (setN S k b path y) k b path = some y
  | [], _, _, _, _, _, h => by simp [nodeAt] at h
  | fr :: F, 0, b, path, y0, y, h => by
    simp only [nodeAt, setN, Fr.root_modr, if_true] at h ⊢
    rw [Option.bind_eq_some_iff] at h
    obtain ⟨x, hx, hs⟩ := h
    simp [hx, AV.sub_setSub_same x path y0 y hs]
  | fr :: F, k + 1, b, path, y0, y, h => nodeAt_setN F k b path y0 y h
theorem setN_setN : ∀ (S : List Fr) (k : Nat) (b : Base) (path : List Hop) (y0 y y' : AV), nodeAt S k b path = some y0 → setN (setN S k b path y) k b path y' = setN S k b path y'
  | [], _, _, _, _, _, _, h => by simp [nodeAt] at h
  | fr :: F, 0, b, path, y0, y, y', h => by
    simp only [nodeAt, setN, Option.bind_eq_some_iff] at h ⊢
    obtain ⟨x, hx, hs⟩ := h
    rw [Fr.modr_modr, Fr.modr_eq hx (g' := fun x => x.setSub path y') (AV.setSub_setSub x path y0 y y' hs)]
  | fr :: F, k + 1, b, path, y0, y, y', h => by simp only [setN]; rw [setN_setN F k b path y0 y y' h]
theorem setN_append : ∀ (S : List Fr) (k : Nat) (b : Base) (path r : List Hop) (y0 z u : AV), nodeAt S k b path = some y0 → y0.sub r = some z → setN S k b (r ++ path) u = setN S k b path (y0.setSub r u)
  | [], _, _, _, _, _, _, _, h, _ => by simp [nodeAt] at h
  | fr :: F, 0, b, path, r, y0, z, u, h, hz => by
    simp only [nodeAt, setN, Option.bind_eq_some_iff] at h ⊢
    obtain ⟨x, hx, hs⟩ := h
    rw [Fr.modr_eq hx (g' := fun x => x.setSub path (y0.setSub r u)) (AV.setSub_append x path y0 hs r z u hz)]
  | fr :: F, k + 1, b, path, r, y0, z, u, h, hz => by simp only [setN]; rw [setN_append F k b path r y0 z u h hz]
theorem killS_setN {H : AV → Bool} : ∀ (S : List Fr) (k : Nat) (b : Base) (path : List Hop) (y0 y : AV), nodeAt S k b path = some y0 → refless y = true → killS H k (setN S k b path y) = setN (killS H k S) k b path y
  | [], _, _, _, _, _, h, _ => by simp [nodeAt] at h
  | fr :: F, 0, b, path, y0, y, h, hy => by
    simp only [nodeAt, setN, killS, Option.bind_eq_some_iff] at h ⊢
    obtain ⟨x, hx, hs⟩ := h
    rw [Fr.drop_modr hx (g' := fun x => x.setSub path y) (dropV_setSub H x path y y0 hs hy)]
  | fr :: F, k + 1, b, path, y0, y, h, hy => by simp only [setN, killS]; rw [killS_setN F k b path y0 y h hy]
theorem setN_self : ∀ (S : List Fr) (k : Nat) (b : Base) (path : List Hop) (y : AV), nodeAt S k b path = some y → setN S k b path y = S
  | [], _, _, _, _, h => by simp [nodeAt] at h
  | fr :: F, 0, b, path, y, h => by
    simp only [nodeAt, setN, Option.bind_eq_some_iff] at h ⊢
    obtain ⟨x, hx, hs⟩ := h
    rw [Fr.modr_self hx (AV.setSub_self x path y hs)]
  | fr :: F, k + 1, b, path, y, h => by simp only [setN]; rw [setN_self F k b path y h]
theorem setp_setN : ∀ (S : List Fr) (k : Nat) (b : Base) (path : List Hop) (j : Nat) (c y : AV), nodeAt S k b path = some y → setp S k ⟨b, path, j⟩ c = setN S k b path (y.setCell j c)
  | [], _, _, _, _, _, _, h => by simp [nodeAt] at h
  | fr :: F, 0, b, path, j, c, y, h => by
    simp only [nodeAt, setN, setp, Option.bind_eq_some_iff] at h ⊢
    obtain ⟨x, hx, hs⟩ := h
    rw [Fr.modr_eq hx (g' := fun x => x.setSub path (y.setCell j c)) (AV.setC_eq hs j c)]
  | fr :: F, k + 1, b, path, j, c, y, h => by simp only [setN, setp]; rw [setp_setN F k b path j c y h]

/-! The step. -/
section
variable {F : List Fr} {k : Nat} {b : Base} {path : List Hop} {y0 : AV}

theorem updN_same (h : nodeAt F k b path = some y0) (hr : refless y0 = true) (y : AV) : nodeAt (updN F k b path y) k b path = some y :=
  nodeAt_setN _ _ _ _ y0 y (nodeAt_killS _ _ _ _ _ h hr)
theorem updN_kill (h : nodeAt F k b path = some y0) (hr : refless y0 = true) {H : AV → Bool} (hH : ∀ x, H x = true → deep b path x = true) (y : AV) (hy : refless y = true) : killS H k (updN F k b path y) = updN F k b path y := by
  unfold updN
  rw [killS_setN _ _ _ _ y0 y (nodeAt_killS _ _ _ _ _ h hr) hy, killS_killS hH]
theorem updN_set (h : nodeAt F k b path = some y0) (hr : refless y0 = true) (y : AV) (r : List Hop) (z u : AV) (hz : y.sub r = some z) : setN (updN F k b path y) k b (r ++ path) u = updN F k b path (y.setSub r u) := by
  have h1 := nodeAt_killS (H := deep b path) _ _ _ _ _ h hr
  rw [setN_append _ _ _ _ r y z u (updN_same h hr y) hz]
  unfold updN
  rw [setN_setN _ _ _ _ y0 _ _ h1]
theorem updN_setp (h : nodeAt F k b path = some y0) (hr : refless y0 = true) (y : AV) (r : List Hop) (j : Nat) (c z : AV) (hz : y.sub r = some z) : setp (updN F k b path y) k ⟨b, r ++ path, j⟩ c = updN F k b path (y.setC r j c) := by
  have h1 : nodeAt (updN F k b path y) k b (r ++ path) = some z := by rw [nodeAt_append, updN_same h hr]; exact hz
  rw [setp_setN _ _ _ _ j c z h1, updN_set h hr y r z _ hz, AV.setC_eq hz]
theorem deep_le {b : Base} {path r : List Hop} : ∀ x, deep b (r ++ path) x = true → deep b path x = true := by
  intro x h
  cases x <;> simp only [deep, Bool.and_eq_true, decide_eq_true_eq, List.length_append] at h ⊢ <;> first | exact h | exact ⟨h.1, by omega⟩
theorem hitsP_le {b : Base} {path r : List Hop} {j : Nat} : ∀ x, hitsP ⟨b, r ++ path, j⟩ x = true → deep b path x = true := by
  intro x h
  cases x <;> simp only [hitsP, deep, Bool.and_eq_true, decide_eq_true_eq, List.length_append] at h ⊢
  case sl p es off len =>
    refine ⟨h.1, ?_⟩
    have h2 := h.2
    split at h2
    · omega
    · simp at h2; omega
  case sa p es off len => exact ⟨h.1, by omega⟩
  case ptr p => exact ⟨h.1, by omega⟩
  all_goals simp at h
theorem updN_updN (h : nodeAt F k b path = some y0) (hr : refless y0 = true) (y : AV) (hy : refless y = true) (r : List Hop) (z u : AV) (hz : y.sub r = some z) : updN (updN F k b path y) k b (r ++ path) u = updN F k b path (y.setSub r u) := by
  rw [show updN (updN F k b path y) k b (r ++ path) u = setN (killS (deep b (r ++ path)) k (updN F k b path y)) k b (r ++ path) u from rfl, updN_kill h hr deep_le y hy, updN_set h hr y r z u hz]
theorem updN_killS_P (h : nodeAt F k b path = some y0) (hr : refless y0 = true) (y : AV) (hy : refless y = true) (r : List Hop) (j : Nat) : killS (hitsP ⟨b, r ++ path, j⟩) k (updN F k b path y) = updN F k b path y := updN_kill h hr hitsP_le y hy
theorem updN_killS_D (h : nodeAt F k b path = some y0) (hr : refless y0 = true) (y : AV) (hy : refless y = true) (r : List Hop) : killS (deep b (r ++ path)) k (updN F k b path y) = updN F k b path y := updN_kill h hr deep_le y hy
theorem updN_length : ∀ (F : List Fr) (k : Nat) (b : Base) (path : List Hop) (y : AV), (updN F k b path y).length = F.length := by
  intro F k b path y
  unfold updN
  have : ∀ (S : List Fr) (k : Nat), (setN S k b path y).length = S.length := by
    intro S
    induction S with
    | nil => intro k; cases k <;> rfl
    | cons fr S ih => intro k; cases k <;> simp [setN, ih]
  rw [this, killS_length]
theorem updN_rw : ∀ (F : List Fr) (k : Nat) (b : Base) (path : List Hop) (y : AV), (updN F k b path y).map Fr.rw = F.map Fr.rw := by
  intro F k b path y
  unfold updN
  have : ∀ (S : List Fr) (k : Nat), (setN S k b path y).map Fr.rw = S.map Fr.rw := by
    intro S
    induction S with
    | nil => intro k; cases k <;> rfl
    | cons fr S ih => intro k; cases k <;> simp [setN, ih]; cases b <;> rfl
  rw [this, killS_rw]

/-- Aliases below a node are forgotten: nothing else. -/
theorem Ghost.killS (fr : Fr) (F : List Fr) (H : AV → Bool) (k : Nat) : Ghost fr F (fr.drop H (k + 1)) (Ai.killS H k F) := by
  intro w G n a hr
  have hw : Weak (rootsOf (fr.drop H (k + 1) :: Ai.killS H k F)) (rootsOf (fr :: F)) := Weak.killS H (k + 1) (fr :: F)
  have hl := killS_length H k F
  refine ⟨G, ⟨hr.ok.weaken hw, ?_, ?_, hr.size, ?_, hr.defers, hw.clean hr.clean⟩, ?_, hl⟩
  · rw [hl]; exact hr.tm
  · intro j x hx
    simp only [Fr.drop, Al.get_mapv, Option.map_eq_some_iff] at hx
    obtain ⟨x0, h0, rfl⟩ := hx
    obtain ⟨h1, h2⟩ := hr.shape j x0 h0
    exact ⟨dropV_shape h1, h2⟩
  · have := hr.wr
    simpa [killS_rw, Fr.drop] using this
  · refine Tr.weak hw ?_
    intro f j x' hf hx
    rw [rootsOf_lt _ _ _ _ (by rw [hl]; exact hf)] at hx
    rw [rootsOf_lt _ _ _ _ hf]
    rw [rootsOf_killS] at hx
    have key : (∃ x0, rootsOf F f (.sl j) = some x0 ∧ (x' = x0 ∨ ∃ m, x' = dropV H m x0)) := by
      split at hx
      · simp only [Option.map_eq_some_iff] at hx; obtain ⟨x0, h0, rfl⟩ := hx; exact ⟨x0, h0, Or.inr ⟨_, rfl⟩⟩
      · split at hx
        · simp only [Option.map_eq_some_iff] at hx; obtain ⟨x0, h0, rfl⟩ := hx; exact ⟨x0, h0, Or.inr ⟨_, rfl⟩⟩
        · exact ⟨x', hx, Or.inl rfl⟩
    obtain ⟨x0, h0, h1⟩ := key
    refine ⟨x0, h0, fun u hu => ?_⟩
    rcases h1 with rfl | ⟨m, rfl⟩
    · exact hu
    · exact dropV_shape hu
end

section
variable {P : Program} {n : Nat} {fr : Fr} {F : List Fr} {Q : Exit → Post} {ks : List Kn}
theorem W_own {k : Nat} {b : Base} {path : List Hop} {y : AV} (h : nodeAt F k b path = some y) (hr : refless y = true) {x : CC} (hw : W P n (.c x :: ks) Q (fr.drop (deep b path) (k + 1)) (updN F k b path y)) : W P n (.c x :: ks) Q fr F := by
  have e : updN F k b path y = killS (deep b path) k F := setN_self _ _ _ _ _ (nodeAt_killS _ _ _ _ _ h hr)
  rw [e] at hw
  exact CW_ghost (Ghost.killS fr F (deep b path) k) hw
end
end Go.Proofs.Ythlehngbadianaa.Ai
/- What simp evaluates a walk by. -/
set_option linter.unusedVariables false
set_option linter.unusedSimpArgs false
namespace Go.Proofs.Ythlehngbadianaa.Ai
open Go Go.RowKit

section
variable {P : Program} {n : Nat} {ts : List Nat} {fr : Fr} {F : List Fr} {Q : Exit → Post} {ks : List Kn}

def condM (P : Program) (n : Nat) (ts : List Nat) (a b : CC) (ks : List Kn) (Q : Exit → Post) (fr : Fr) (F : List Fr) : Option AV → Prop
  | some (.v (.bool true)) => N P n ts (.c a :: ks) Q (some (fr, F))
  | some (.v (.bool false)) => N P n ts (.c b :: ks) Q (some (fr, F))
  | _ => False
def guardM (P : Program) (n : Nat) (ts : List Nat) (want : Bool) (o : CO) (l : List CO) (ks : List Kn) (Q : Exit → Post) (fr : Fr) (F : List Fr) : Option AV → Prop
  | some (.v (.bool true)) => if want = true then N P n ts (.o (o :: l) :: ks) Q (some (fr, F)) else N P n ts (.o l :: ks) Q (some (if o.k.isStore then fr else fr.del o.d, F))
  | some (.v (.bool false)) => if want = false then N P n ts (.o (o :: l) :: ks) Q (some (fr, F)) else N P n ts (.o l :: ks) Q (some (if o.k.isStore then fr else fr.del o.d, F))
  | _ => False
def exitM (P : Program) (n : Nat) (ts : List Nat) (id : Nat) (Q : Exit → Post) (fr : Fr) (F : List Fr) : Option (List Kn) → Prop
  | some ks' => N P n ts ks' Q (some (fr, F))
  | none => Q (.exit id) fr F

theorem N_none : N P n ts ks Q none = False := by rw [N.eq_def]
theorem N_nil : N P n ts [] Q (some (fr, F)) = Q .normal fr F := by rw [N.eq_def]
theorem N_i {I : Post} : N P n ts (.i I :: ks) Q (some (fr, F)) = I fr F := by rw [N.eq_def]
theorem N_b {id : Nat} : N P n ts (.b id :: ks) Q (some (fr, F)) = N P n ts ks Q (some (fr, F)) := by rw [N.eq_def]
theorem N_o : N P n ts (.o [] :: ks) Q (some (fr, F)) = N P n ts ks Q (some (fr, F)) := by rw [N.eq_def]
theorem N_op {d : Nat} {k : CK} {c : List Nat} {x : List Nat} {l : List CO} : N P n ts (.o (⟨none, d, k, c, x⟩ :: l) :: ks) Q (some (fr, F)) = opN P n (.o l :: ks) Q ⟨none, d, k, c, x⟩ fr F (fun s => N P n ts (.o l :: ks) Q s) := by rw [N.eq_def]
theorem N_val {d : Nat} {e : VE} {c : List Nat} {x : List Nat} {l : List CO} : N P n ts (.o (⟨none, d, .val e, c, x⟩ :: l) :: ks) Q (some (fr, F)) = N P n ts (.o l :: ks) Q (aftS d c x (stV d fr F (veval e fr F))) := by rw [N_op]; rfl
theorem N_mk {d : Nat} {lo co : Opd} {z : Value} {es by' : Nat} {c : List Nat} {x : List Nat} {l : List CO} : N P n ts (.o (⟨none, d, .mk lo co z es by', c, x⟩ :: l) :: ks) Q (some (fr, F)) = N P n ts (.o l :: ks) Q (aftS d c x (mkFin d z es by' fr F (fr.int lo) (fr.int co))) := by rw [N_op]; rfl
theorem N_lit {d es : Nat} {os : List Opd} {c : List Nat} {x : List Nat} {l : List CO} : N P n ts (.o (⟨none, d, .lit es os, c, x⟩ :: l) :: ks) Q (some (fr, F)) = N P n ts (.o l :: ks) Q (aftS d c x (lit1 d es os (claimTs .all (tmpsOf os) (some (fr, F))))) := by rw [N_op]; rfl
theorem N_app {d es by' : Nat} {i : Bool} {ox oy : Opd} {c : List Nat} {x : List Nat} {l : List CO} : N P n ts (.o (⟨none, d, .app es by' i ox oy, c, x⟩ :: l) :: ks) Q (some (fr, F)) = N P n ts (.o l :: ks) Q (aftS d c x (app2 d es by' i fr F oy (fr.ev ox) (fr.ev oy))) := by rw [N_op]; rfl
theorem N_store {d m t : Nat} {ox : Opd} {c : List Nat} {x : List Nat} {l : List CO} : N P n ts (.o (⟨none, d, .store m ox t, c, x⟩ :: l) :: ks) Q (some (fr, F)) = N P n ts (.o l :: ks) Q (aftS d c x (store1 m ox t (claimT .all t fr F))) := by rw [N_op]; rfl
theorem N_storeC {d : Nat} {ox : Opd} {v : Value} {c : List Nat} {x : List Nat} {l : List CO} : N P n ts (.o (⟨none, d, .storeC ox v, c, x⟩ :: l) :: ks) Q (some (fr, F)) = N P n ts (.o l :: ks) Q (aftS d c x (storeC1 v fr F (fr.ev ox))) := by rw [N_op]; rfl
theorem N_box {d s : Nat} {c : List Nat} {x : List Nat} {l : List CO} : N P n ts (.o (⟨none, d, .box s, c, x⟩ :: l) :: ks) Q (some (fr, F)) = N P n ts (.o l :: ks) Q (aftS d c x (box1 s d (claimT .all s fr F))) := by rw [N_op]; rfl
theorem N_alloc {d : Nat} {z : Value} {c : List Nat} {x : List Nat} {l : List CO} : N P n ts (.o (⟨none, d, .alloc z, c, x⟩ :: l) :: ks) Q (some (fr, F)) = N P n ts (.o l :: ks) Q (aftS d c x (some ((fr.kill (.sl d)).set d (.obj (zeroAV z)), F))) := by rw [N_op]; rfl
theorem N_call {d : Nat} {f : FuncId} {args : List Opd} {c : List Nat} {x : List Nat} {l : List CO} : N P n ts (.o (⟨none, d, .call f args, c, x⟩ :: l) :: ks) Q (some (fr, F)) = callN P f (fr :: F) (callQ d (aftW P n (.o l :: ks) Q d c x)) (evL fr args) := by rw [N_op]; rfl
theorem N_guard {g d : Nat} {want : Bool} {k : CK} {c : List Nat} {x : List Nat} {l : List CO} : N P n ts (.o (⟨some (g, want), d, k, c, x⟩ :: l) :: ks) Q (some (fr, F)) = guardM P n ts want ⟨none, d, k, c, x⟩ l ks Q fr F (fr.sl.get g) := by
  rw [N.eq_def]
  simp only
  generalize fr.sl.get g = y
  unfold guardM
  simp only [N_op]
  split <;> first | rfl | simp_all
theorem N_skip : N P n ts (.c .skip :: ks) Q (some (fr, F)) = N P n ts ks Q (some (fr, F)) := by rw [N.eq_def]
theorem N_exit {id : Nat} : N P n ts (.c (.exit id) :: ks) Q (some (fr, F)) = exitM P n ts id Q fr F (exitTo id ks) := by
  rw [N.eq_def]
  simp only
  split <;> (rename_i h; rw [h]; rfl)
theorem N_ret : N P n ts (.c .ret :: ks) Q (some (fr, F)) = retN Q (claimTs .loc ts (some (fr, F))) := by rw [N.eq_def]
theorem N_seq {a b : CC} : N P n ts (.c (.seq a b) :: ks) Q (some (fr, F)) = N P n ts (.c a :: .c b :: ks) Q (some (fr, F)) := by rw [N.eq_def]
theorem N_block {id : Nat} {a : CC} : N P n ts (.c (.block id a) :: ks) Q (some (fr, F)) = N P n ts (.c a :: .b id :: ks) Q (some (fr, F)) := by rw [N.eq_def]
theorem N_region {l : List CO} : N P n ts (.c (.region l) :: ks) Q (some (fr, F)) = N P n ts (.o l :: ks) Q (some (fr, F)) := by rw [N.eq_def]
theorem N_loop {a : CC} : N P n ts (.c (.loop a) :: ks) Q (some (fr, F)) = W P n (.c (.loop a) :: ks) Q fr F := by rw [N.eq_def]
theorem N_cond {c : Opd} {a b : CC} : N P n ts (.c (.cond c a b) :: ks) Q (some (fr, F)) = condM P n ts a b ks Q fr F (fr.ev c) := by
  rw [N.eq_def]
  simp only
  generalize fr.ev c = y
  unfold condM
  split <;> first | rfl | simp_all
theorem N_drawn {t : PT} : N P n ts (.c (.drawn t) :: ks) Q (some (fr, F)) = W P n (.c (.drawn t) :: ks) Q fr F := by rw [N.eq_def]
theorem N_t {pt : PT} : N P n ts (.t pt :: ks) Q (some (fr, F)) = W P n (.t pt :: ks) Q fr F := by rw [N.eq_def]
theorem T_none : ∀ {pt : PT}, NT P n pt ks Q none = False := by intro pt; cases pt <;> rfl
theorem T_done : NT P n .done ks Q (some (fr, F)) = W P n ks Q fr F := rfl
theorem T_alt {a b : PT} : NT P n (.alt a b) ks Q (some (fr, F)) = (NT P n a ks Q (some (fr, F)) ∧ NT P n b ks Q (some (fr, F))) := rfl
theorem T_op {d : Nat} {k : CK} {c x : List Nat} {pt : PT} : NT P n (.op ⟨none, d, k, c, x⟩ pt) ks Q (some (fr, F)) = opN P n (.t pt :: ks) Q ⟨none, d, k, c, x⟩ fr F (fun s => NT P n pt ks Q s) := rfl
theorem T_val {d : Nat} {e : VE} {c x : List Nat} {pt : PT} : NT P n (.op ⟨none, d, .val e, c, x⟩ pt) ks Q (some (fr, F)) = NT P n pt ks Q (aftS d c x (stV d fr F (veval e fr F))) := by rw [T_op]; rfl
theorem T_mk {d : Nat} {lo co : Opd} {z : Value} {es by' : Nat} {c x : List Nat} {pt : PT} : NT P n (.op ⟨none, d, .mk lo co z es by', c, x⟩ pt) ks Q (some (fr, F)) = NT P n pt ks Q (aftS d c x (mkFin d z es by' fr F (fr.int lo) (fr.int co))) := by rw [T_op]; rfl
theorem T_lit {d es : Nat} {os : List Opd} {c x : List Nat} {pt : PT} : NT P n (.op ⟨none, d, .lit es os, c, x⟩ pt) ks Q (some (fr, F)) = NT P n pt ks Q (aftS d c x (lit1 d es os (claimTs .all (tmpsOf os) (some (fr, F))))) := by rw [T_op]; rfl
theorem T_app {d es by' : Nat} {i : Bool} {ox oy : Opd} {c x : List Nat} {pt : PT} : NT P n (.op ⟨none, d, .app es by' i ox oy, c, x⟩ pt) ks Q (some (fr, F)) = NT P n pt ks Q (aftS d c x (app2 d es by' i fr F oy (fr.ev ox) (fr.ev oy))) := by rw [T_op]; rfl
theorem T_store {d m s : Nat} {ox : Opd} {c x : List Nat} {pt : PT} : NT P n (.op ⟨none, d, .store m ox s, c, x⟩ pt) ks Q (some (fr, F)) = NT P n pt ks Q (aftS d c x (store1 m ox s (claimT .all s fr F))) := by rw [T_op]; rfl
theorem T_storeC {d : Nat} {ox : Opd} {v : Value} {c x : List Nat} {pt : PT} : NT P n (.op ⟨none, d, .storeC ox v, c, x⟩ pt) ks Q (some (fr, F)) = NT P n pt ks Q (aftS d c x (storeC1 v fr F (fr.ev ox))) := by rw [T_op]; rfl
theorem T_box {d s : Nat} {c x : List Nat} {pt : PT} : NT P n (.op ⟨none, d, .box s, c, x⟩ pt) ks Q (some (fr, F)) = NT P n pt ks Q (aftS d c x (box1 s d (claimT .all s fr F))) := by rw [T_op]; rfl
theorem T_alloc {d : Nat} {z : Value} {c x : List Nat} {pt : PT} : NT P n (.op ⟨none, d, .alloc z, c, x⟩ pt) ks Q (some (fr, F)) = NT P n pt ks Q (aftS d c x (some ((fr.kill (.sl d)).set d (.obj (zeroAV z)), F))) := by rw [T_op]; rfl
theorem T_call {d : Nat} {f : FuncId} {args : List Opd} {c x : List Nat} {pt : PT} : NT P n (.op ⟨none, d, .call f args, c, x⟩ pt) ks Q (some (fr, F)) = callN P f (fr :: F) (callQ d (aftW P n (.t pt :: ks) Q d c x)) (evL fr args) := by rw [T_op]; rfl
def guardT (P : Program) (n : Nat) (want : Bool) (o : CO) (pt : PT) (ks : List Kn) (Q : Exit → Post) (fr : Fr) (F : List Fr) : Option AV → Prop
  | some (.v (.bool true)) => if want = true then NT P n (.op o pt) ks Q (some (fr, F)) else NT P n pt ks Q (some (if o.k.isStore then fr else fr.del o.d, F))
  | some (.v (.bool false)) => if want = false then NT P n (.op o pt) ks Q (some (fr, F)) else NT P n pt ks Q (some (if o.k.isStore then fr else fr.del o.d, F))
  | _ => False
theorem T_guard {g d : Nat} {want : Bool} {k : CK} {c x : List Nat} {pt : PT} : NT P n (.op ⟨some (g, want), d, k, c, x⟩ pt) ks Q (some (fr, F)) = guardT P n want ⟨none, d, k, c, x⟩ pt ks Q fr F (fr.sl.get g) := by
  simp only [NT]
  generalize fr.sl.get g = y
  unfold guardT
  simp only [T_op]
  split <;> first | rfl | simp_all
theorem guardT_tt {d : Nat} {k : CK} {c x : List Nat} {pt : PT} : guardT P n true ⟨none, d, k, c, x⟩ pt ks Q fr F (some (.v (.bool true))) = NT P n (.op ⟨none, d, k, c, x⟩ pt) ks Q (some (fr, F)) := rfl
theorem guardT_ff {d : Nat} {k : CK} {c x : List Nat} {pt : PT} : guardT P n false ⟨none, d, k, c, x⟩ pt ks Q fr F (some (.v (.bool false))) = NT P n (.op ⟨none, d, k, c, x⟩ pt) ks Q (some (fr, F)) := rfl
theorem guardT_tf {d : Nat} {k : CK} {c x : List Nat} {pt : PT} : guardT P n true ⟨none, d, k, c, x⟩ pt ks Q fr F (some (.v (.bool false))) = NT P n pt ks Q (some (if k.isStore then fr else fr.del d, F)) := rfl
theorem guardT_ft {d : Nat} {k : CK} {c x : List Nat} {pt : PT} : guardT P n false ⟨none, d, k, c, x⟩ pt ks Q fr F (some (.v (.bool true))) = NT P n pt ks Q (some (if k.isStore then fr else fr.del d, F)) := rfl
theorem condM_true {a b : CC} : condM P n ts a b ks Q fr F (some (.v (.bool true))) = N P n ts (.c a :: ks) Q (some (fr, F)) := rfl
theorem condM_false {a b : CC} : condM P n ts a b ks Q fr F (some (.v (.bool false))) = N P n ts (.c b :: ks) Q (some (fr, F)) := rfl
theorem guardM_tt {d : Nat} {k : CK} {c : List Nat} {x : List Nat} {l : List CO} : guardM P n ts true ⟨none, d, k, c, x⟩ l ks Q fr F (some (.v (.bool true))) = N P n ts (.o (⟨none, d, k, c, x⟩ :: l) :: ks) Q (some (fr, F)) := rfl
theorem guardM_ff {d : Nat} {k : CK} {c : List Nat} {x : List Nat} {l : List CO} : guardM P n ts false ⟨none, d, k, c, x⟩ l ks Q fr F (some (.v (.bool false))) = N P n ts (.o (⟨none, d, k, c, x⟩ :: l) :: ks) Q (some (fr, F)) := rfl
theorem guardM_tf {d : Nat} {k : CK} {c : List Nat} {x : List Nat} {l : List CO} : guardM P n ts true ⟨none, d, k, c, x⟩ l ks Q fr F (some (.v (.bool false))) = N P n ts (.o l :: ks) Q (some (if k.isStore then fr else fr.del d, F)) := rfl
theorem guardM_ft {d : Nat} {k : CK} {c : List Nat} {x : List Nat} {l : List CO} : guardM P n ts false ⟨none, d, k, c, x⟩ l ks Q fr F (some (.v (.bool true))) = N P n ts (.o l :: ks) Q (some (if k.isStore then fr else fr.del d, F)) := rfl
theorem exitM_some {id : Nat} {ks' : List Kn} : exitM P n ts id Q fr F (some ks') = N P n ts ks' Q (some (fr, F)) := rfl
theorem exitM_none {id : Nat} : exitM P n ts id Q fr F none = Q (.exit id) fr F := rfl
theorem WS_some : WS P n ks Q (some (fr, F)) = W P n ks Q fr F := rfl
theorem retN_some : retN Q (some (fr, F)) = Q .ret fr F := rfl

theorem rdS_sl (es : Nat) (S : List Fr) (k : Nat) (p : Pl) (es' off len : Nat) : rdS es S (upN k (.sl p es' off len)) = (slRes p es' off len k ((nodeAt S k p.base p.path).bind fun y => y.cells[p.j]?)).bind fun r => if r.2.2.1 = es then some ((r.1.drop r.2.2.2.1).take r.2.2.2.2.1) else none := by
  unfold rdS
  rw [nilsl_upN, slcell_upN]
  simp only [nilsl, Bool.false_eq_true, if_false]
  cases slRes p es' off len k ((nodeAt S k p.base p.path).bind fun y => y.cells[p.j]?) <;> rfl

theorem W_def (h : N P n ts ks Q (some (fr, F))) (hm : P.follows .mixedOrders = true) : W P n ks Q fr F := W_of_N ts hm h
end
/-- A function of the program, compiled. -/
structure FnOk (P : Program) (f : FuncId) (cc : CC) (ts : List Nat) (na n : Nat) : Prop where
  ex : ∃ fn, P.funcs[f]? = some fn ∧ fn.body.bind (compC P n) = some cc.strip ∧ fn.ntmps = n ∧ fn.results = (ts.map ResultVar.tmp).toArray
  le : na ≤ n
  nd : ts.Nodup
  no : RES ∉ ts
theorem FnOk.W {P : Program} {f : FuncId} {cc : CC} {ts : List Nat} {na n : Nat} (h : FnOk P f cc ts na n) {args : List AV} (hl : args.length = na) {F : List Fr} {Q : AV → List Fr → Prop} (hw : Ai.W P n [.c cc] (retQ ts Q) ⟨enterFr 0 args, [], true⟩ F) : ACalls P f args F Q := by
  obtain ⟨⟨fn, h1, h2, h3, h4⟩, h5, h6, h7⟩ := h
  rw [Option.bind_eq_some_iff] at h2
  obtain ⟨code, hb, hcc⟩ := h2
  exact ACalls_W ts h1 hb hcc h3 (by omega) h4 h6 h7 hw
theorem FnOk.N {P : Program} {f : FuncId} {cc : CC} {ts : List Nat} {na n : Nat} (h : FnOk P f cc ts na n) (hm : P.follows .mixedOrders = true) {args : List AV} (hl : args.length = na) {F : List Fr} {Q : AV → List Fr → Prop} (hw : Ai.N P n ts [.c cc] (retQ ts Q) (some (⟨enterFr 0 args, [], true⟩, F))) : ACalls P f args F Q :=
  h.W hl (W_of_N ts hm hw)
end Go.Proofs.Ythlehngbadianaa.Ai
/- Rules for the evaluation of a walk. -/
set_option linter.unusedVariables false
set_option linter.unusedSimpArgs false
namespace Go.Proofs.Ythlehngbadianaa.Ai
open Go Go.RowKit

theorem inMem_bx (t : Nat) (path : List Hop) : inMem (.bx t) path = true := by cases path <;> rfl
theorem rdS_up (es : Nat) (fr : Fr) (F : List Fr) (x : AV) : rdS es (fr :: F) (.up x) = rdS es F x := by
  have e1 : nilsl (.up x) = nilsl x := rfl
  have e2 : slcell (fr :: F) (.up x) = (slcell F x).map fun r => (r.1, r.2.1, r.2.2.1, r.2.2.2.1, r.2.2.2.2.1, r.2.2.2.2.2 + 1) := rfl
  unfold rdS
  by_cases h : nilsl x = true
  · rw [if_pos h, if_pos (by rw [e1]; exact h)]
  · rw [if_neg h, if_neg (by rw [e1]; exact h), e2]
    cases slcell F x <;> rfl
theorem rdS_sl0 (es : Nat) (S : List Fr) (p : Pl) (es' off len : Nat) : rdS es S (.sl p es' off len) = (slRes p es' off len 0 ((nodeAt S 0 p.base p.path).bind fun y => y.cells[p.j]?)).bind fun r => if r.2.2.1 = es then some ((r.1.drop r.2.2.2.1).take r.2.2.2.2.1) else none := rdS_sl es S 0 p es' off len
theorem rdS_nil (es : Nat) (S : List Fr) : rdS es S (.v (.slice none 0 0)) = some [] := rfl
theorem slcell_upS (fr : Fr) (F : List Fr) (k : Nat) (p : Pl) (es off len : Nat) : slcell (fr :: F) (.up (upN k (.sl p es off len))) = slRes p es off len (k + 1) ((nodeAt F k p.base p.path).bind fun y => y.cells[p.j]?) := slcell_upN (fr :: F) (k + 1) p es off len
theorem slcell_sl0 (S : List Fr) (p : Pl) (es off len : Nat) : slcell S (.sl p es off len) = slRes p es off len 0 ((nodeAt S 0 p.base p.path).bind fun y => y.cells[p.j]?) := slcell_upN S 0 p es off len
theorem deref_upS (fr : Fr) (F : List Fr) (k : Nat) (p : Pl) : deref (fr :: F) (.up (upN k (.ptr p))) = if inMem p.base p.path = true then (nodeAt F k p.base p.path).map fun y => (y, p, k + 1) else none := deref_upN (fr :: F) (k + 1) p
theorem deref_up (fr : Fr) (F : List Fr) (x : AV) : deref (fr :: F) (.up x) = (deref F x).map fun r => (r.1, r.2.1, r.2.2 + 1) := rfl
theorem slcell_up (fr : Fr) (F : List Fr) (x : AV) : slcell (fr :: F) (.up x) = (slcell F x).map fun r => (r.1, r.2.1, r.2.2.1, r.2.2.2.1, r.2.2.2.2.1, r.2.2.2.2.2 + 1) := rfl
theorem wrap_u64 {x : Int} (h1 : 0 ≤ x) (h2 : x ≤ 18446744073709551615) : IntKind.u64.wrap x = x := by
  unfold IntKind.wrap
  have e1 : IntKind.u64.signed = false := rfl
  have e2 : IntKind.u64.bits = 64 := rfl
  rw [e1, e2]
  simp only [Bool.false_and, Bool.false_eq_true, if_false]
  omega
theorem deref_ptr0 (S : List Fr) (p : Pl) : deref S (.ptr p) = if inMem p.base p.path = true then (nodeAt S 0 p.base p.path).map fun y => (y, p, 0) else none := deref_upN S 0 p
theorem take_len_map {α β : Type} (f : α → β) (m : List α) : List.take m.length (List.map f m) = List.map f m := List.take_of_length_le (by simp)
theorem getA {α β : Type} (f : α → β) (L : List α) (x : β) : (List.map f L ++ [x])[L.length]? = some x := by
  rw [List.getElem?_append_right (by simp)]; simp
theorem setA {α β : Type} (f : α → β) (L : List α) (x y : β) : (List.map f L ++ [x]).set L.length y = List.map f L ++ [y] := by
  rw [List.set_append_right _ _ (by simp)]; simp
theorem getB {α : Type} (L : List α) (x : α) : (L ++ [x])[L.length]? = some x := by
  rw [List.getElem?_append_right (by simp)]; simp
theorem setB {α : Type} (L : List α) (x y : α) : (L ++ [x]).set L.length y = L ++ [y] := by
  rw [List.set_append_right _ _ (by simp)]; simp
theorem take_len_app {α β : Type} (f g : α → β) (m n : List α) : List.take (m.length + n.length) (List.map f m ++ List.map g n) = List.map f m ++ List.map g n := List.take_of_length_le (by simp)
theorem bne_tt : (true != true) = false := rfl
theorem bne_tf : (true != false) = true := rfl
theorem bne_ft : (false != true) = true := rfl
theorem bne_ff : (false != false) = false := rfl
theorem wrap_i64 {x : Int} (h1 : -9223372036854775808 ≤ x) (h2 : x ≤ 9223372036854775807) : IntKind.i64.wrap x = x := by
  exact IntWalk.i64_in x ⟨h1, h2⟩
theorem posS (n : Nat) : (0 < ((n + 1 : Nat) : Int)) = True := by simp
theorem cast0 : ((0 : Nat) : Int) = 0 := rfl
theorem beq00 : (((0 : Nat) : Int) == 0) = true := rfl
theorem beqS0 (n : Nat) : (((n + 1 : Nat) : Int) == 0) = false := by
  have : ((n + 1 : Nat) : Int) ≠ 0 := by omega
  simpa using this
theorem sel_all (k : Nat) (y : AV) : Sel.ok .all k y = true := rfl
theorem sel_loc0 (y : AV) : Sel.ok .loc 0 y = true := rfl
theorem sel_locS (k : Nat) (y : AV) : Sel.ok .loc (k + 1) y = false := rfl
theorem sel_from0 (l : List Nat) (y : AV) : Sel.ok (.from l) 0 y = isFrom l y := rfl
theorem sel_fromS (l : List Nat) (k : Nat) (y : AV) : Sel.ok (.from l) (k + 1) y = false := rfl

def rwF (F : List Fr) (k : Nat) : Bool := (F.map Fr.rw)[k]? == some true
theorem rwAt_zero (sl bx : Al) (w : Bool) (F : List Fr) : rwAt ⟨sl, bx, w⟩ F 0 = w := by cases w <;> rfl
theorem rwAt_succ (fr : Fr) (F : List Fr) (k : Nat) : rwAt fr F (k + 1) = rwF F k := by simp [rwAt, rwF]
theorem rwF_zero (sl bx : Al) (w : Bool) (F : List Fr) : rwF (⟨sl, bx, w⟩ :: F) 0 = w := by cases w <;> rfl
theorem rwF_succ (fr : Fr) (F : List Fr) (k : Nat) : rwF (fr :: F) (k + 1) = rwF F k := by simp [rwF]
theorem rwF_updN (F : List Fr) (k : Nat) (b : Base) (path : List Hop) (y : AV) (k' : Nat) : rwF (updN F k b path y) k' = rwF F k' := by simp [rwF, updN_rw]
theorem baseIs_succ (k : Nat) (b : Base) (t : Nat) : baseIs (k + 1) b t = false := rfl
theorem baseIs_sl (s t : Nat) : baseIs 0 (.sl s) t = decide (s = t) := by simp [baseIs]
theorem baseIs_bx (s t : Nat) : baseIs 0 (.bx s) t = false := by simp [baseIs]

theorem claimY_no (e : Sel) (t j : Nat) (fr : Fr) (F : List Fr) (k : Nat) (y : AV) (h : e.ok k y = false) : claimY e t j fr F (some (k, y)) = some (fr, F) := by simp [claimY, h]
theorem claimY_from0 (l : List Nat) (t j : Nat) (fr : Fr) (F : List Fr) (y : AV) : claimY (.from l) t j fr F (some (0, y)) = if isFrom l y = true then claimR t j fr F 0 y else some (fr, F) := rfl
theorem claimY_fromS (l : List Nat) (t j : Nat) (fr : Fr) (F : List Fr) (k : Nat) (y : AV) : claimY (.from l) t j fr F (some (k + 1, y)) = some (fr, F) := rfl
theorem claimY_loc0 (t j : Nat) (fr : Fr) (F : List Fr) (y : AV) : claimY .loc t j fr F (some (0, y)) = claimR t j fr F 0 y := rfl
theorem claimY_locS (t j : Nat) (fr : Fr) (F : List Fr) (k : Nat) (y : AV) : claimY .loc t j fr F (some (k + 1, y)) = some (fr, F) := rfl
theorem claimY_all (t j : Nat) (fr : Fr) (F : List Fr) (k : Nat) (y : AV) : claimY .all t j fr F (some (k, y)) = claimR t j fr F k y := rfl
theorem claimY_none (e : Sel) (t j : Nat) (fr : Fr) (F : List Fr) : claimY e t j fr F none = some (fr, F) := rfl

/-- What a list is that is taken over. -/
def claimLR (t j : Nat) (fr : Fr) (F : List Fr) (k : Nat) (p : Pl) (es off len : Nat) : Option AV → St
  | some (.own es' xs) => if es' = es ∧ off + len ≤ xs.length then uncons (setp (setp (fr.kill (.sl t) :: F) k p .junk) 0 ⟨.sl t, [], j⟩ (.own es ((xs.drop off).take len))) else some (fr, F)
  | _ => some (fr, F)
def claimOR (t j : Nat) (fr : Fr) (F : List Fr) (k : Nat) (p : Pl) : Option AV → St
  | some (.obj x) => if x.cells.isEmpty = false then uncons (setp (setp (fr.kill (.sl t) :: F) k p .junk) 0 ⟨.sl t, [], j⟩ (.obj x)) else some (fr, F)
  | _ => some (fr, F)
theorem claimR_sl (t j : Nat) (fr : Fr) (F : List Fr) (k : Nat) (p : Pl) (es off len : Nat) : claimR t j fr F k (.sl p es off len) = if baseIs k p.base t = false ∧ rwAt fr F k = true then claimLR t j fr F k p es off len (getp (fr.kill (.sl t) :: F) k p) else some (fr, F) := by
  simp only [claimR, claimLR]
  try (split <;> rfl)
theorem claimR_ptr (t j : Nat) (fr : Fr) (F : List Fr) (k : Nat) (b : Base) (jj : Nat) (path : List Hop) : claimR t j fr F k (.ptr ⟨b, (jj, 0) :: path, 0⟩) = if baseIs k b t = false ∧ rwAt fr F k = true then claimOR t j fr F k ⟨b, path, jj⟩ (getp (fr.kill (.sl t) :: F) k ⟨b, path, jj⟩) else some (fr, F) := by
  simp only [claimR, claimOR]
  try (split <;> rfl)
theorem claimR_nil (t j : Nat) (fr : Fr) (F : List Fr) (k : Nat) (b : Base) (i : Nat) : claimR t j fr F k (.ptr ⟨b, [], i⟩) = some (fr, F) := by
  unfold claimR; rfl
theorem isFrom_sl (l : List Nat) (t i es off len : Nat) : isFrom l (.sl ⟨.sl t, [], i⟩ es off len) = l.contains t := rfl
theorem isFrom_ptr (l : List Nat) (t i : Nat) (h : Hop) : isFrom l (.ptr ⟨.sl t, [h], i⟩) = l.contains t := rfl
theorem isFrom_slc (l : List Nat) (t i es off len : Nat) (h : Hop) (p : List Hop) : isFrom l (.sl ⟨.sl t, h :: p, i⟩ es off len) = false := rfl
theorem isFrom_slb (l : List Nat) (t i es off len : Nat) (p : List Hop) : isFrom l (.sl ⟨.bx t, p, i⟩ es off len) = false := rfl
theorem isFrom_ptrb (l : List Nat) (t i : Nat) (p : List Hop) : isFrom l (.ptr ⟨.bx t, p, i⟩) = false := rfl
theorem isFrom_ptrc (l : List Nat) (t i : Nat) (h h2 : Hop) (p : List Hop) : isFrom l (.ptr ⟨.sl t, h :: h2 :: p, i⟩) = false := rfl

/-- The rules of a node that is set. -/
theorem upd_rules {F : List Fr} {k : Nat} {b : Base} {path : List Hop} {y0 : AV} (h : nodeAt F k b path = some y0) (hr : refless y0 = true) :
    (∀ y, nodeAt (updN F k b path y) k b path = some y) ∧
    (∀ y j c, setp (updN F k b path y) k ⟨b, path, j⟩ c = updN F k b path (y.setCell j c)) ∧
    (∀ y h1 j c, (y.sub [h1]).isSome = true → setp (updN F k b path y) k ⟨b, h1 :: path, j⟩ c = updN F k b path (y.setC [h1] j c)) ∧
    (∀ y h1 h2 j c, (y.sub [h1, h2]).isSome = true → setp (updN F k b path y) k ⟨b, h1 :: h2 :: path, j⟩ c = updN F k b path (y.setC [h1, h2] j c)) ∧
    (∀ y j, refless y = true → killS (hitsP ⟨b, path, j⟩) k (updN F k b path y) = updN F k b path y) ∧
    (∀ y h1 j, refless y = true → killS (hitsP ⟨b, h1 :: path, j⟩) k (updN F k b path y) = updN F k b path y) ∧
    (∀ y h1 h2 j, refless y = true → killS (hitsP ⟨b, h1 :: h2 :: path, j⟩) k (updN F k b path y) = updN F k b path y) ∧
    (∀ y, refless y = true → killS (deep b path) k (updN F k b path y) = updN F k b path y) ∧
    (∀ y h1, refless y = true → killS (deep b (h1 :: path)) k (updN F k b path y) = updN F k b path y) ∧
    (∀ y h1 h2, refless y = true → killS (deep b (h1 :: h2 :: path)) k (updN F k b path y) = updN F k b path y) ∧
    (∀ y u, refless y = true → updN (updN F k b path y) k b path u = updN F k b path u) ∧
    (∀ y h1 u, refless y = true → (y.sub [h1]).isSome = true → updN (updN F k b path y) k b (h1 :: path) u = updN F k b path (y.setSub [h1] u)) ∧
    (∀ y h1 h2 u, refless y = true → (y.sub [h1, h2]).isSome = true → updN (updN F k b path y) k b (h1 :: h2 :: path) u = updN F k b path (y.setSub [h1, h2] u)) ∧
    (∀ y h1 h2 h3 u, refless y = true → (y.sub [h1, h2, h3]).isSome = true → updN (updN F k b path y) k b (h1 :: h2 :: h3 :: path) u = updN F k b path (y.setSub [h1, h2, h3] u)) := by
  refine ⟨fun y => updN_same h hr y, fun y j c => ?_, fun y h1 j c hz => ?_, fun y h1 h2 j c hz => ?_, fun y j hy => updN_killS_P h hr y hy [] j, fun y h1 j hy => updN_killS_P h hr y hy [h1] j, fun y h1 h2 j hy => updN_killS_P h hr y hy [h1, h2] j,
    fun y hy => updN_killS_D h hr y hy [], fun y h1 hy => updN_killS_D h hr y hy [h1], fun y h1 h2 hy => updN_killS_D h hr y hy [h1, h2], fun y u hy => updN_updN h hr y hy [] y u rfl, fun y h1 u hy hz => ?_, fun y h1 h2 u hy hz => ?_, fun y h1 h2 h3 u hy hz => ?_⟩
  · have := updN_setp h hr y [] j c y rfl
    rw [AV.setC_eq (x := y) (path := []) (z := y) rfl] at this
    exact this
  · obtain ⟨z, hz⟩ := Option.isSome_iff_exists.1 hz; exact updN_setp h hr y [h1] j c z hz
  · obtain ⟨z, hz⟩ := Option.isSome_iff_exists.1 hz; exact updN_setp h hr y [h1, h2] j c z hz
  · obtain ⟨z, hz⟩ := Option.isSome_iff_exists.1 hz; exact updN_updN h hr y hy [h1] z u hz
  · obtain ⟨z, hz⟩ := Option.isSome_iff_exists.1 hz; exact updN_updN h hr y hy [h1, h2] z u hz
  · obtain ⟨z, hz⟩ := Option.isSome_iff_exists.1 hz; exact updN_updN h hr y hy [h1, h2, h3] z u hz

def keepL : Al → Al → Prop
  | [], _ => True
  | (k, x) :: l, m => m.get k = some x ∧ keepL l m
theorem keepL_spec : ∀ (l m : Al), keepL l m → ∀ e ∈ l, m.get e.1 = some e.2
  | [], m, _, e, he => by simp at he
  | (k, x) :: l, m, h, e, he => by
    simp only [List.mem_cons] at he
    rcases he with rfl | he
    · exact h.1
    · exact keepL_spec l m h.2 e he
theorem Keep_of {s : Fr × List Fr} {fr : Fr} {F : List Fr} (h1 : s.2 = F) (h2 : s.1.rw = fr.rw) (h3 : keepL s.1.sl fr.sl) (h4 : keepL s.1.bx fr.bx) : Keep s fr F := ⟨h1, h2, keepL_spec _ _ h3, keepL_spec _ _ h4⟩
theorem Mid_of {α : Type} {st : α → Fr × List Fr} {ok : α → Prop} {fr : Fr} {F : List Fr} (a : α) (h : ok a) (h1 : (st a).2 = F) (h2 : (st a).1.rw = fr.rw) (h3 : keepL (st a).1.sl fr.sl) (h4 : keepL (st a).1.bx fr.bx) : Mid st ok fr F := ⟨a, h, Keep_of h1 h2 h3 h4⟩
/-- What a condition on an index gives. -/
theorem ofNat_toNat {i : Int} (h : 0 ≤ i) : ((i.toNat : Nat) : Int) = i := Int.toNat_of_nonneg h
end Go.Proofs.Ythlehngbadianaa.Ai
/- The entry: arguments that are read as data lie in a frame that is never written. -/
set_option linter.unusedVariables false
set_option linter.unusedSimpArgs false
set_option linter.unnecessarySimpa false
namespace Go.Proofs.Ythlehngbadianaa.Ai
open Go Go.RowKit

theorem rowAt_le {P : Program} {fits : TypeId → Bool} {d : Nat} {e : TypeId} {count off n : Nat} (h : rowAt P fits d e count off n = true) : off ≤ count * P.cellsOf e := by
  cases d with
  | zero => simp [rowAt] at h
  | succ d =>
    unfold rowAt at h
    simp only at h
    split at h
    · simp at h
    · rename_i hs
      have hpos : 0 < P.cellsOf e := Nat.pos_of_ne_zero hs
      simp only [Bool.or_eq_true, Bool.and_eq_true, beq_iff_eq, decide_eq_true_eq] at h
      have hdm := Nat.div_add_mod off (P.cellsOf e)
      rcases h with h | h
      · have h1 : off / P.cellsOf e ≤ count := by omega
        have := Nat.mul_le_mul_left (P.cellsOf e) h1
        rw [Nat.mul_comm count]
        omega
      · have h1 : off / P.cellsOf e + 1 ≤ count := by omega
        have h2 := Nat.mul_le_mul_left (P.cellsOf e) h1
        have h3 := Nat.mod_lt off hpos
        rw [Nat.mul_comm count]
        rw [Nat.mul_add] at h2
        omega
theorem liesAt_le {P : Program} {d : Nat} {e u : TypeId} {count off n : Nat} (h : liesAt P d e count off u n = true) : off ≤ count * P.cellsOf e := by
  induction d generalizing u n with
  | zero => simp [liesAt] at h
  | succ d ih =>
    unfold liesAt at h
    simp only [Bool.or_eq_true] at h
    rcases h with h | h
    · exact rowAt_le h
    · split at h
      · exact ih h
      · simp at h

theorem mapM_range_get {α : Type} {g : Nat → Option α} {n : Nat} {l : List α} (h : (List.range n).mapM g = some l) : l.length = n ∧ ∀ i, i < n → g i = l[i]? := by
  have h1 := mapM_some_length h
  refine ⟨by simpa using h1, fun i hi => ?_⟩
  exact mapM_some_get h i i (by simp [hi])

/-- A slice that comes in: nil, or elements in memory. -/
theorem slice_arg {H : Type} {enc : TypeId × Value → H} {P : Program} {w : World} {base : Nat} {t e : TypeId} {es : Nat} {v : Value} {d : DataW H} {p : List MemPlace} (ht : P.underlying t = some (.slice e)) (hc : P.cellsOf e = es)
    (hv : Value.okWide P w .any base t v) (hx : DataW.Trod enc P w 0 (fun _ => true) true t v d p) (T : List Value → Prop) (hT : ∀ n cs y, DataW.trod enc P w 0 (fun _ => true) true n e cs = some y → T cs) :
    v = .slice none 0 0 ∨ ∃ (B o cap : Nat) (css : List (List Value)), v = .slice (some ⟨B, o, none⟩) css.length cap ∧ css.length ≤ cap ∧ cap ≤ maxLen ∧ blockOk w false B (o + cap * es) ∧ (∀ cs ∈ css, cs.length = es ∧ T cs) ∧
      (∀ (i : Nat) (cs : List Value), css[i]? = some cs → ∀ (j : Nat) (u : Value), cs[j]? = some u → w.cell? ⟨B, o + i * es + j, none⟩ = some u) := by
  obtain ⟨fuel, hf⟩ := hx
  have hone : ∃ a len cap, v = .slice a len cap := WideShapes.okWide_slice ht hv
  obtain ⟨a, len, cap, rfl⟩ := hone
  rcases DataW.trod_slice ht hf with ⟨h0, _⟩ | ⟨ad, l, c, elems, rest, n, _, hcs, _, hb, hl, hm, hlen, hel, hsp, _⟩
  · left
    simpa [Value.cells] using h0
  right
  simp only [Value.cells, List.cons.injEq, Value.slice.injEq, and_true] at hcs
  obtain ⟨rfl, rfl, rfl⟩ := hcs
  simp only [Value.okWide, ht, Cell.okWide, Cell.ok] at hv
  obtain ⟨_, _, _, hspot, row, cells, hshape, hlies⟩ := hv
  obtain ⟨B, o, sp⟩ := ad
  simp only at hspot
  subst hspot
  obtain ⟨hr1, hr2⟩ := hsp rfl
  -- each element
  have each : ∀ i, i < cap → ∃ cs y, w.cells? 0 (Addr.add ⟨B, o, none⟩ (i * es)) es = some cs ∧ DataW.trod enc P w 0 (fun _ => true) true n e cs = some y := by
    intro i hi
    rw [hc] at hel hr2
    by_cases h : i < len
    · have h1 := hel i h
      rw [List.getElem?_eq_getElem (by omega)] at h1
      obtain ⟨cs, h2, h3⟩ := Option.bind_eq_some_iff.1 h1
      exact ⟨cs, _, h2, h3⟩
    · have h1 := hr2 (i - len) (by omega)
      rw [show len + (i - len) = i by omega] at h1
      rw [List.getElem?_eq_getElem (by omega)] at h1
      obtain ⟨cs, h2, h3⟩ := Option.bind_eq_some_iff.1 h1
      exact ⟨cs, _, h2, h3⟩
  have cellsAt : ∀ i cs, w.cells? 0 (Addr.add ⟨B, o, none⟩ (i * es)) es = some cs → cs.length = es ∧ ∀ (j : Nat) (u : Value), cs[j]? = some u → w.cell? ⟨B, o + i * es + j, none⟩ = some u := by
    intro i cs h
    unfold World.cells? at h
    rw [if_pos (Nat.zero_le _)] at h
    obtain ⟨h1, h2⟩ := mapM_range_get h
    refine ⟨h1, fun j u hj => ?_⟩
    have := h2 j (by rw [← h1]; exact (List.getElem?_eq_some_iff.1 hj).1)
    rw [hj] at this
    rw [add_plain', add_plain'] at this
    exact this
  -- the elements that are shown
  have hcss : ∃ css : List (List Value), css.length = len ∧ ∀ i cs, css[i]? = some cs → cs.length = es ∧ T cs ∧ ∀ (j : Nat) (u : Value), cs[j]? = some u → w.cell? ⟨B, o + i * es + j, none⟩ = some u := by
    have key : ∀ m, m ≤ len → ∃ css : List (List Value), css.length = m ∧ ∀ i cs, css[i]? = some cs → cs.length = es ∧ T cs ∧ ∀ (j : Nat) (u : Value), cs[j]? = some u → w.cell? ⟨B, o + i * es + j, none⟩ = some u := by
      intro m
      induction m with
      | zero => intro _; exact ⟨[], rfl, by simp⟩
      | succ m ih =>
        intro hm
        obtain ⟨css, h1, h2⟩ := ih (by omega)
        obtain ⟨cs, y, h3, h4⟩ := each m (by omega)
        obtain ⟨h5, h6⟩ := cellsAt m cs h3
        refine ⟨css ++ [cs], by simp [h1], ?_⟩
        intro i cs' hi
        by_cases hlt : i < css.length
        · rw [List.getElem?_append_left hlt] at hi; exact h2 i cs' hi
        · rw [List.getElem?_append_right (by omega)] at hi
          have : i = m := by
            have := (List.getElem?_eq_some_iff.1 hi).1
            simp at this; omega
          subst this
          simp [h1] at hi
          subst hi
          exact ⟨h5, hT _ _ _ h4, h6⟩
    exact key len (Nat.le_refl _)
  obtain ⟨css, hcl, hce⟩ := hcss
  subst hcl
  refine ⟨B, o, cap, css, rfl, hl, hm, ?_, ?_, ?_⟩
  · unfold World.shape? at hshape
    split at hshape
    · rename_i arr elem fz hB
      simp only [Option.some.injEq, Prod.mk.injEq] at hshape
      obtain ⟨rfl, rfl⟩ := hshape
      refine ⟨arr, elem, fz, hB, ?_, fun h => by simp at h⟩
      by_cases h0 : cap = 0 ∨ es = 0
      · have h1 := liesAt_le hlies
        have h2 := Nat.div_mul_le_self arr.size (P.cellsOf elem)
        rcases h0 with h0 | h0 <;> (rw [h0]; simp; simp only at h1; omega)
      · obtain ⟨cs, y, h3, h4⟩ := each (cap - 1) (by omega)
        obtain ⟨h5, h6⟩ := cellsAt (cap - 1) cs h3
        have hlast := h6 (es - 1) cs[es - 1] (List.getElem?_eq_getElem (by omega))
        unfold World.cell? at hlast
        rw [hB] at hlast
        simp only [Option.isSome_none, Bool.false_eq_true, if_false] at hlast
        have h7 : o + (cap - 1) * es + (es - 1) < arr.size := by
          rcases Nat.lt_or_ge (o + (cap - 1) * es + (es - 1)) arr.size with h | h
          · exact h
          · simp [Array.getElem?_eq_none h] at hlast
        have h8 : (cap - 1) * es + es = cap * es := by
          rw [← Nat.add_one_mul]; congr 1; omega
        omega
    · simp at hshape
  · intro cs hcs
    obtain ⟨i, hi⟩ := List.getElem?_of_mem hcs
    exact ⟨(hce i cs hi).1, (hce i cs hi).2.1⟩
  · intro i cs hi j u hj
    exact (hce i cs hi).2.2 j u hj

/-- A list in memory, all of plain cells. -/
def InMem (w : World) (es : Nat) (xs : List AV) (u : Value) : Prop :=
  0 < es ∧ ∃ B o cap, u = .slice (some ⟨B, o, none⟩) xs.length cap ∧ xs.length ≤ cap ∧ blockOk w false B (o + cap * es) ∧
    (∀ x ∈ xs, x.cells.length = es ∧ notTup x = true) ∧ ∀ (i : Nat) (x : AV), xs[i]? = some x → ∀ (j : Nat) (c : AV), x.cells[j]? = some c → ∃ v, c = .v v ∧ v.oneCell' = true ∧ w.cell? ⟨B, o + i * es + j, none⟩ = some v

def ArgOk (w : World) (x : AV) (u : Value) : Prop := (x = .v u ∧ u.oneCell' = true) ∨ ∃ es xs, x = .own es xs ∧ InMem w es xs u
def argAV (i : Nat) : AV → AV
  | .own es xs => .up (.sl ⟨.sl i, [], 0⟩ es 0 xs.length)
  | x => x
def argAVs : Nat → List AV → List AV
  | _, [] => []
  | i, x :: l => argAV i x :: argAVs (i + 1) l
def botFr (xs : List AV) : Fr := ⟨enterFr 0 xs, [], false⟩

theorem argAVs_get : ∀ (i : Nat) (xs : List AV) (k : Nat), (argAVs i xs)[k]? = (xs[k]?).map (argAV (i + k))
  | i, [], k => by simp [argAVs]
  | i, x :: xs, 0 => by simp [argAVs]
  | i, x :: xs, k + 1 => by
    simp only [argAVs, List.getElem?_cons_succ, argAVs_get (i + 1) xs k]
    rw [show i + 1 + k = i + (k + 1) by omega]

/-- Where a list lies. -/
def addrOfV (es : Nat) : Value → Nat × Nat × Nat
  | .slice (some ⟨B, o, _⟩) _ _ => (B, o, es)
  | _ => (0, 0, es)
def esOf : AV → Nat
  | .own es _ => es
  | _ => 0
def botG (xs : List AV) (us : List Value) : Gh where
  h := fun _ b path j => match b, path with
    | .sl k, [] => addrOfV (esOf (xs.getD k .junk)) (us.getD k undef)
    | _, _ => (0, 0, 0)
  bb := fun _ _ => 0
  tm := fun f k => if f = 0 then us.getD k undef else undef
  wr := fun f => decide (f ≠ 0)

section
variable {w : World} {xs : List AV} {us : List Value}

theorem bot_root (f : Nat) (b : Base) : rootsOf [botFr xs] f b = match b with
    | .sl k => if f = 0 then xs[k]? else none
    | .bx _ => none := by
  simp only [rootsOf, botFr, Fr.root, List.length_nil]
  cases b with
  | sl k => simp [enterFr_get]
  | bx t => simp [Al.get]

/-- The rows of the frame: the slots themselves, and the elements of the lists. -/
theorem bot_rows (hl : xs.length = us.length) (h : ∀ (i : Nat) (x : AV) (u : Value), xs[i]? = some x → us[i]? = some u → ArgOk w x u) {f : Nat} {b : Base} {path : List Hop} {r : List Sh} (hr : rowOf (rootsOf [botFr xs]) f b path = some r) :
    f = 0 ∧ ∃ k x u, b = .sl k ∧ xs[k]? = some x ∧ us[k]? = some u ∧
      ((path = [] ∧ r = [x.sh] ∧ (x = .v u ∧ u.oneCell' = true ∨ ∃ es ys, x = .own es ys ∧ InMem w es ys u)) ∨
       ∃ es ys i y, x = .own es ys ∧ InMem w es ys u ∧ path = [(0, i)] ∧ ys[i]? = some y ∧ r = y.cells.map AV.sh) := by
  simp only [rowOf, bot_root, Option.bind_eq_some_iff] at hr
  obtain ⟨x, hx, hrow⟩ := hr
  cases b with
  | bx t => simp at hx
  | sl k =>
    simp only at hx
    split at hx
    · rename_i hf
      have hk := (List.getElem?_eq_some_iff.1 hx).1
      have hu : us[k]? = some (us[k]'(by omega)) := List.getElem?_eq_getElem (by omega)
      refine ⟨hf, k, x, _, rfl, hx, hu, ?_⟩
      have hok := h k x _ hx hu
      rcases hok with ⟨rfl, h1⟩ | ⟨es, ys, rfl, hin⟩
      · left
        have : path = [] ∧ r = [Sh.val us[k]] := by
          simp only [AV.row, Option.map_eq_some_iff] at hrow
          obtain ⟨z, hz, rfl⟩ := hrow
          rcases List.eq_nil_or_concat path with rfl | ⟨q, a, rfl⟩
          · simp only [AV.sub, Option.some.injEq] at hz; subst hz; exact ⟨rfl, rfl⟩
          · obtain ⟨j, i⟩ := a
            simp only [List.concat_eq_append, AV.sub_append] at hz
            simp only [AV.sub, Option.bind_some, AV.cells] at hz
            cases j <;> simp [AV.elem] at hz
        exact ⟨this.1, this.2, Or.inl ⟨rfl, h1⟩⟩
      · simp only [AV.row, Option.map_eq_some_iff] at hrow
        obtain ⟨z, hz, rfl⟩ := hrow
        rcases List.eq_nil_or_concat path with rfl | ⟨q, a, rfl⟩
        · left
          simp only [AV.sub, Option.some.injEq] at hz; subst hz
          exact ⟨rfl, rfl, Or.inr ⟨es, ys, rfl, hin⟩⟩
        · right
          obtain ⟨j, i⟩ := a
          simp only [List.concat_eq_append, AV.sub_append] at hz ⊢
          simp only [AV.sub, Option.bind_some, AV.cells] at hz
          cases j with
          | succ j => simp at hz
          | zero =>
            simp only [List.getElem?_cons_zero, Option.bind_some, AV.elem, Option.bind_eq_some_iff] at hz
            obtain ⟨y, hy, hq⟩ := hz
            rcases List.eq_nil_or_concat q with rfl | ⟨q, a, rfl⟩
            · simp only [AV.sub, Option.some.injEq] at hq
              subst hq
              exact ⟨es, ys, i, y, rfl, hin, rfl, hy, rfl⟩
            · obtain ⟨j, i'⟩ := a
              simp only [List.concat_eq_append, AV.sub_append] at hq
              simp only [AV.sub, Option.bind_some, Option.bind_eq_some_iff] at hq
              obtain ⟨z', ⟨c, hc, hcz⟩, _⟩ := hq
              obtain ⟨_, B, o, cap, _, _, _, _, hcell⟩ := hin
              obtain ⟨v, rfl, _⟩ := hcell i y hy j c hc
              simp [AV.elem] at hcz
    · simp at hx

theorem bot_ok (hl : xs.length = us.length) (h : ∀ (i : Nat) (x : AV) (u : Value), xs[i]? = some x → us[i]? = some u → ArgOk w x u) : Ok w (botG xs us) (rootsOf [botFr xs]) := by
  have hgd : ∀ k x, xs[k]? = some x → xs.getD k .junk = x := fun k x hx => by simp [List.getD_eq_getElem?_getD, hx]
  have hgu : ∀ k u, us[k]? = some u → us.getD k undef = u := fun k u hx => by simp [List.getD_eq_getElem?_getD, hx]
  have haddr : ∀ k es ys u B o cap n, xs[k]? = some (.own es ys) → us[k]? = some u → u = .slice (some ⟨B, o, none⟩) n cap → ∀ f, (botG xs us).h f (.sl k) [] 0 = (B, o, es) := by
    intro k es ys u B o cap n h1 h2 h3 f
    simp only [botG, hgd k _ h1, hgu k _ h2, h3, addrOfV, esOf]
  refine ⟨?_, ?_, ?_, ?_, ?_⟩
  · intro f b par j i es n r hc hr
    obtain ⟨hf, k, x, u, rfl, hx, hu, hcase⟩ := bot_rows hl h hr
    rcases hcase with ⟨h1, _⟩ | ⟨es', ys, i', y, rfl, hin, h1, hy, rfl⟩
    · simp at h1
    · simp only [List.cons.injEq, Prod.mk.injEq] at h1
      obtain ⟨⟨rfl, rfl⟩, rfl⟩ := h1
      obtain ⟨r0, hr0, hj⟩ := cellOf_row hc
      obtain ⟨_, k', x', u', hb, hx', hu', hcase'⟩ := bot_rows hl h hr0
      simp only [Base.sl.injEq] at hb
      subst hb
      rw [hx] at hx'
      obtain rfl := Option.some.inj hx'
      rcases hcase' with ⟨_, h2, _⟩ | ⟨_, _, _, _, _, _, h2, _⟩
      · subst h2
        simp only [AV.sh, List.getElem?_cons_zero, Option.some.injEq, Sh.own.injEq] at hj
        rw [List.length_map, ← hj.1]
        obtain ⟨_, B, o, cap, _, _, _, hes, _⟩ := hin
        exact (hes y (List.mem_of_getElem? hy)).1
      · simp at h2
  · intro f b path r j s hr hj
    obtain ⟨rfl, k, x, u, rfl, hx, hu, hcase⟩ := bot_rows hl h hr
    rcases hcase with ⟨rfl, rfl, h1⟩ | ⟨es, ys, i, y, rfl, hin, rfl, hy, rfl⟩
    · have hj0 : j = 0 ∧ s = x.sh := by
        cases j with
        | zero => simp at hj; exact ⟨rfl, hj.symm⟩
        | succ j => simp at hj
      obtain ⟨rfl, rfl⟩ := hj0
      rcases h1 with ⟨rfl, h1⟩ | ⟨es, ys, rfl, hin⟩
      · refine ⟨u, ?_, rfl⟩
        simp only [conc, inMem, Bool.false_eq_true, if_false]
        simp only [botG, if_true, hgu k u hu, flatV_of_one h1]
        rfl
      · obtain ⟨hpos, B, o, cap, rfl, h2, h3, h4, h5⟩ := hin
        refine ⟨.slice (some ⟨B, o, none⟩) ys.length cap, ?_, ?_⟩
        · simp only [conc, inMem, Bool.false_eq_true, if_false]
          simp only [botG, if_true, hgu k _ hu]
          rfl
        · simp only [AV.sh, CS]
          rw [haddr k es ys _ B o cap _ hx hu rfl]
          exact ⟨rfl, hpos, cap, rfl, h2, by simpa [botG] using h3⟩
    · obtain ⟨hpos, B, o, cap, rfl, h2, h3, h4, h5⟩ := hin
      rw [List.getElem?_map, Option.map_eq_some_iff] at hj
      obtain ⟨c, hc, rfl⟩ := hj
      obtain ⟨v, rfl, h6, h7⟩ := h5 i y hy j c hc
      refine ⟨v, ?_, rfl⟩
      simp only [conc, inMem_cons, if_true, Gh.addr]
      rw [haddr k es ys _ B o cap _ hx hu rfl]
      exact h7
  · intro f b path r j s u' hr hj hcn
    obtain ⟨rfl, k, x, u, rfl, hx, hu, hcase⟩ := bot_rows hl h hr
    rcases hcase with ⟨rfl, rfl, h1⟩ | ⟨es, ys, i, y, rfl, hin, rfl, hy, rfl⟩
    · have hj0 : j = 0 := by
        cases j with
        | zero => rfl
        | succ j => simp at hj
      subst hj0
      simp only [conc, inMem, Bool.false_eq_true, if_false] at hcn
      simp only [botG, if_true, hgu k u hu] at hcn
      have hone : u.oneCell' = true := by
        rcases h1 with ⟨_, h1⟩ | ⟨es, ys, rfl, hin⟩
        · exact h1
        · obtain ⟨_, B, o, cap, rfl, _⟩ := hin; rfl
      rw [flatV_of_one hone] at hcn
      simp at hcn
      subst hcn
      exact hone
    · obtain ⟨hpos, B, o, cap, rfl, h2, h3, h4, h5⟩ := hin
      rw [List.getElem?_map, Option.map_eq_some_iff] at hj
      obtain ⟨c, hc, rfl⟩ := hj
      obtain ⟨v, rfl, h6, h7⟩ := h5 i y hy j c hc
      simp only [conc, inMem_cons, if_true, Gh.addr] at hcn
      rw [haddr k es ys _ B o cap _ hx hu rfl] at hcn
      simp only at hcn
      rw [h7] at hcn
      obtain rfl := Option.some.inj hcn
      exact h6
  · intro f t ht
    rw [bot_root] at ht
    simp at ht
  · intro o o' ho _ hw _
    exfalso
    have hf : o.frame = 0 := by
      cases o with
      | bx f t => simp only [Owner.valid] at ho; rw [bot_root] at ho; simp at ho
      | cell f b path j =>
        simp only [Owner.valid] at ho
        rcases ho with ⟨es, n, ho⟩ | ho
        · obtain ⟨r, hr, _⟩ := cellOf_row ho; exact (bot_rows hl h hr).1
        · obtain ⟨r, hr, _⟩ := cellOf_row ho; exact (bot_rows hl h hr).1
    rw [hf] at hw
    simp [botG] at hw

theorem bot_clean (hl : xs.length = us.length) (h : ∀ (i : Nat) (x : AV) (u : Value), xs[i]? = some x → us[i]? = some u → ArgOk w x u) : Clean (rootsOf [botFr xs]) := by
  intro f b a path r x hr hx
  obtain ⟨rfl, k, y, u, rfl, hy, hu, hcase⟩ := bot_rows hl h hr
  rcases hcase with ⟨h1, _⟩ | ⟨es, ys, i, z, rfl, hin, h1, hz, rfl⟩
  · simp at h1
  · obtain ⟨hpos, B, o, cap, rfl, h2, h3, h4, h5⟩ := hin
    rw [List.mem_map] at hx
    obtain ⟨c, hc, he⟩ := hx
    obtain ⟨j, hj⟩ := List.getElem?_of_mem hc
    obtain ⟨v, rfl, _⟩ := h5 i z hz j c hj
    simp [AV.sh] at he

/-- A law that holds of what its arguments read as. -/
theorem entry {P : Program} {f : FuncId} (xs : List AV) (us : Array Value) (hl : xs.length = us.size) (h : ∀ (i : Nat) (x : AV) (u : Value), xs[i]? = some x → us[i]? = some u → ArgOk w x u)
    (hc : ACalls P f (argAVs 0 xs) [botFr xs] (fun r F' => r = .v (.bool true))) : Calls P f us w fun e w' => e = .returned (.bool true) ∧ Below w.heap.size w w' := by
  have hl' : xs.length = us.toList.length := by simpa using hl
  have h' : ∀ (i : Nat) (x : AV) (u : Value), xs[i]? = some x → us.toList[i]? = some u → ArgOk w x u := fun i x u hx hu => h i x u hx (by simpa using hu)
  have ok := bot_ok hl' h'
  have cl := bot_clean hl' h'
  have hal : us.size = (argAVs 0 xs).length := by
    rw [← hl]
    have : ∀ (i : Nat) (xs : List AV), (argAVs i xs).length = xs.length := by
      intro i xs
      induction xs generalizing i with
      | nil => rfl
      | cons x xs ih => simp [argAVs, ih]
    rw [this]
  refine (hc w (botG xs us.toList) us ok cl ?_ hal ?_).mono ?_
  · refine ⟨fun f hf => ?_, fun i hi => ?_⟩
    · simp [botG] at hf ⊢; omega
    · cases i with
      | zero => simp [botFr] at hi
      | succ i => simp at hi
  · intro i x hx
    rw [argAVs_get, Option.map_eq_some_iff] at hx
    obtain ⟨y, hy, rfl⟩ := hx
    have hi := (List.getElem?_eq_some_iff.1 hy).1
    have hu : us[i]? = some us[i] := Array.getElem?_eq_getElem (by omega)
    have hu' : us.toList[i]? = some us[i] := by simpa using hu
    refine ⟨us[i], hu, ?_⟩
    rcases h i y _ hy hu with ⟨rfl, h1⟩ | ⟨es, ys, rfl, hin⟩
    · exact VR_mk h1
    · obtain ⟨hpos, B, o, cap, e, h2, h3, h4, h5⟩ := hin
      simp only [argAV, Nat.zero_add]
      refine (VR_one rfl).2 ⟨by rw [e]; rfl, ?_⟩
      simp only [List.length_cons, List.length_nil, RV]
      intro n hn hle
      have hroot : cellOf (rootsOf [botFr xs]) 0 ⟨.sl i, [], 0⟩ = some (.own es ys.length) := by
        simp [cellOf, rowOf, bot_root, hy, AV.row, AV.sub, AV.cells, AV.sh]
      have hh : (botG xs us.toList).h 0 (.sl i) [] 0 = (B, o, es) := by
        have e1 : xs.getD i .junk = .own es ys := by simp [List.getD_eq_getElem?_getD, hy]
        have e2 : us.toList.getD i undef = us[i] := by simp [List.getD_eq_getElem?_getD, hu']
        simp only [botG, e1, e2, e, addrOfV, esOf]
      rw [hh]
      exact ⟨o, cap, e, h2, Or.inr (by simp), by simpa [botG] using h3⟩
  · rintro e w' ⟨v, rfl, r, F', G', rfl, hlen, hwr, hok, hcl, htm, hsh, hones, htr⟩
    constructor
    · have hrow : rowOf (rootsOf (resFr (.v (.bool true)) :: F')) F'.length (.sl RES) [] = some [Sh.val (.bool true)] := by
        simp [rowOf, rootsOf, resFr, Fr.root, Al.get, AV.row, AV.sub, AV.cells, AV.sh]
      obtain ⟨u, hu, hcs⟩ := hok.cell _ _ _ _ 0 _ hrow rfl
      simp only [CS] at hcs
      subst hcs
      have htm' : G'.tm F'.length RES = v := by rw [hlen]; exact htm
      simp only [conc, inMem, Bool.false_eq_true, if_false, htm'] at hu
      have h1 : v.oneCell' = true := hsh
      rw [flatV_of_one h1] at hu
      simp at hu
      rw [hu]
    · refine ⟨htr.os, htr.tape, htr.output, htr.size, fun b hb => (htr.keep b hb ?_).1⟩
      intro o ho hw _
      have hf : o.frame = 0 := by
        cases o with
        | bx f t => simp only [Owner.valid] at ho; rw [bot_root] at ho; simp at ho
        | cell f b path j =>
          simp only [Owner.valid] at ho
          rcases ho with ⟨es, n, ho⟩ | ho
          · obtain ⟨r, hr, _⟩ := cellOf_row ho; exact (bot_rows hl' h' hr).1
          · obtain ⟨r, hr, _⟩ := cellOf_row ho; exact (bot_rows hl' h' hr).1
      rw [hf] at hw
      simp [botG] at hw
end
end Go.Proofs.Ythlehngbadianaa.Ai
/- The rules by which simp evaluates a walk, in one. -/
set_option linter.unusedVariables false
set_option linter.defProp false
set_option maxRecDepth 10000
namespace Go.Proofs.Ythlehngbadianaa.Ai
open Go Go.RowKit
def AI0 :=
  And.intro @enterFr.eq_1 <|
  And.intro @enterFr.eq_2 <|
  And.intro @N_none <|
  And.intro @N_nil <|
  And.intro @N_i <|
  And.intro @N_b <|
  And.intro @N_o <|
  And.intro @N_val <|
  And.intro @N_mk <|
  And.intro @N_lit <|
  And.intro @N_app <|
  And.intro @N_store <|
  And.intro @N_storeC <|
  And.intro @N_box <|
  And.intro @N_alloc <|
  And.intro @N_call <|
  And.intro @N_guard <|
  And.intro @N_skip <|
  And.intro @N_exit <|
  And.intro @N_ret <|
  And.intro @N_seq <|
  And.intro @N_block <|
  And.intro @N_region <|
  And.intro @N_loop <|
  And.intro @N_cond <|
  And.intro @condM_true <|
  And.intro @condM_false <|
  And.intro @guardM_tt <|
  And.intro @guardM_ff <|
  And.intro @guardM_tf <|
  And.intro @guardM_ft <|
  And.intro @exitM_some <|
  And.intro @exitM_none <|
  And.intro @N_drawn <|
  And.intro @N_t <|
  And.intro @T_none <|
  And.intro @T_done <|
  And.intro @T_alt <|
  And.intro @T_val <|
  And.intro @T_mk <|
  And.intro @T_lit <|
  And.intro @T_app <|
  And.intro @T_store <|
  And.intro @T_storeC <|
  And.intro @T_box <|
  And.intro @T_alloc <|
  And.intro @T_call <|
  And.intro @T_guard <|
  And.intro @guardT_tt <|
  And.intro @guardT_ff <|
  And.intro @guardT_tf <|
  And.intro @guardT_ft <|
  And.intro @WS_some <|
  And.intro @retN_some <|
  And.intro @exitTo.eq_1 <|
  And.intro @exitTo.eq_2 <|
  And.intro @exitTo.eq_3 <|
  And.intro @exitTo.eq_4 <|
  And.intro @exitTo.eq_5 <|
  @exitTo.eq_6
def AI1 :=
  And.intro @aftS.eq_1 <|
  And.intro @claimB.eq_1 <|
  And.intro @claimB.eq_2 <|
  And.intro @dropS.eq_1 <|
  And.intro @dropS.eq_2 <|
  And.intro @dropX.eq_1 <|
  And.intro @dropX.eq_2 <|
  And.intro @drop1.eq_1 <|
  And.intro @drop1.eq_2 <|
  And.intro @owning.eq_1 <|
  And.intro @AV.owns.eq_1 <|
  And.intro @AV.owns.eq_2 <|
  And.intro @AV.owns.eq_3 <|
  And.intro @stV.eq_1 <|
  And.intro @stV.eq_2 <|
  And.intro @veval.eq_1 <|
  And.intro @veval.eq_2 <|
  And.intro @veval.eq_3 <|
  And.intro @veval.eq_4 <|
  And.intro @veval.eq_5 <|
  And.intro @veval.eq_6 <|
  And.intro @veval.eq_7 <|
  And.intro @veval.eq_8 <|
  And.intro @veval.eq_9 <|
  And.intro @veval.eq_10 <|
  And.intro @veval.eq_11 <|
  And.intro @veval.eq_12 <|
  And.intro @veval.eq_13 <|
  And.intro @veval.eq_14 <|
  And.intro @veval.eq_15 <|
  And.intro @veval.eq_16 <|
  And.intro @veval.eq_17 <|
  And.intro @veval.eq_18 <|
  And.intro @veval.eq_19 <|
  And.intro @veval.eq_20 <|
  And.intro @veval.eq_21 <|
  And.intro @veval.eq_22 <|
  And.intro @veval.eq_23 <|
  And.intro @veval.eq_24 <|
  And.intro @veval.eq_25 <|
  And.intro @veval.eq_26 <|
  And.intro @Fr.ev.eq_1 <|
  And.intro @Fr.ev.eq_2 <|
  And.intro @Fr.ev.eq_3 <|
  And.intro @Fr.int.eq_1 <|
  And.intro @Fr.int?.eq_1 <|
  And.intro @Fr.int?.eq_2 <|
  And.intro @Fr.str.eq_1 <|
  And.intro @Fr.set.eq_1 <|
  And.intro @Fr.del.eq_1 <|
  And.intro @Fr.kill.eq_1 <|
  And.intro @Fr.drop.eq_1 <|
  And.intro @Fr.modr.eq_1 <|
  And.intro @Fr.modr.eq_2 <|
  And.intro @Fr.root.eq_1 <|
  And.intro @Fr.root.eq_2 <|
  And.intro @Al.get.eq_1 <|
  And.intro @Al.get.eq_2 <|
  And.intro @Al.set.eq_1 <|
  @Al.del.eq_1
def AI2 :=
  And.intro @Al.del.eq_2 <|
  And.intro @Al.mapv.eq_1 <|
  And.intro @Al.modv.eq_1 <|
  And.intro @Al.modv.eq_2 <|
  And.intro @borrow.eq_1 <|
  And.intro @borrow.eq_2 <|
  And.intro @borrow.eq_3 <|
  And.intro @borrow1.eq_1 <|
  And.intro @borrow1.eq_2 <|
  And.intro @borrow1.eq_3 <|
  And.intro @borrowL.eq_1 <|
  And.intro @borrowL.eq_2 <|
  And.intro @AV.cells.eq_1 <|
  And.intro @AV.cells.eq_2 <|
  And.intro @AV.cells.eq_3 <|
  And.intro @AV.one.eq_1 <|
  And.intro @AV.one.eq_2 <|
  And.intro @AV.one.eq_3 <|
  And.intro @Go.Value.oneCell'.eq_1 <|
  And.intro @Go.Value.oneCell'.eq_2 <|
  And.intro @Go.Value.oneCell'.eq_3 <|
  And.intro @upN_succ <|
  And.intro @upN_zero <|
  And.intro @nilsl_upN <|
  And.intro @nilsl.eq_1 <|
  And.intro @nilsl.eq_2 <|
  And.intro @nilsl.eq_3 <|
  And.intro @isNilSl.eq_1 <|
  And.intro @isNilSl.eq_2 <|
  And.intro @addrOff.eq_1 <|
  And.intro @addrOff.eq_2 <|
  And.intro @addrOff.eq_3 <|
  And.intro @addrOff_upN' <|
  And.intro @slOff.eq_1 <|
  And.intro @slOff.eq_2 <|
  And.intro @slOff.eq_3 <|
  And.intro @slOff_upN' <|
  And.intro @slElem.eq_1 <|
  And.intro @slElem.eq_2 <|
  And.intro @slElem.eq_3 <|
  And.intro @slElem_upN' <|
  And.intro @liftN.eq_1 <|
  And.intro @liftN.eq_2 <|
  And.intro @liftN.eq_3 <|
  And.intro @liftN.eq_4 <|
  And.intro @liftN_sl <|
  And.intro @liftN_ptr <|
  And.intro @liftN_v <|
  And.intro @liftN_junk <|
  And.intro @hitK.eq_1 <|
  And.intro @hitK.eq_2 <|
  And.intro @hitK.eq_3 <|
  And.intro @hitK.eq_4 <|
  And.intro @hitK.eq_5 <|
  And.intro @hitK.eq_6 <|
  And.intro @hitK_upN <|
  And.intro @hitKs.eq_1 <|
  And.intro @hitKs.eq_2 <|
  And.intro @hits.eq_1 <|
  @hits.eq_2
def AI3 :=
  And.intro @hits.eq_3 <|
  And.intro @hits.eq_4 <|
  And.intro @hits.eq_5 <|
  And.intro @hitsL.eq_1 <|
  And.intro @hitsL.eq_2 <|
  And.intro @deep.eq_1 <|
  And.intro @deep.eq_2 <|
  And.intro @deep.eq_3 <|
  And.intro @deep.eq_4 <|
  And.intro @hitsP.eq_1 <|
  And.intro @hitsP.eq_2 <|
  And.intro @hitsP.eq_3 <|
  And.intro @hitsP.eq_4 <|
  And.intro @dropV.eq_1 <|
  And.intro @dropV.eq_2 <|
  And.intro @dropV.eq_3 <|
  And.intro @dropC.eq_1 <|
  And.intro @killV.eq_1 <|
  And.intro @killV.eq_2 <|
  And.intro @killV.eq_3 <|
  And.intro @killC.eq_1 <|
  And.intro @killS.eq_1 <|
  And.intro @killS.eq_2 <|
  And.intro @killS.eq_3 <|
  And.intro @deref_up <|
  And.intro @deref_upN <|
  And.intro @deref_ptr0 <|
  And.intro @slcell_up <|
  And.intro @slcell_upN <|
  And.intro @slcell_sl0 <|
  And.intro @rdS_sl <|
  And.intro @rdS_sl0 <|
  And.intro @rdS_up <|
  And.intro @rdS_nil <|
  And.intro @slRes.eq_1 <|
  And.intro @slRes.eq_2 <|
  And.intro @nodeAt.eq_1 <|
  And.intro @nodeAt.eq_2 <|
  And.intro @nodeAt.eq_3 <|
  And.intro @nodeAt_cons <|
  And.intro @inMem_cons <|
  And.intro @inMem_bx <|
  And.intro @CK.isStore.eq_1 <|
  And.intro @CK.isStore.eq_2 <|
  And.intro @CK.isStore.eq_3 <|
  And.intro @getp_node <|
  And.intro @keepL.eq_1 <|
  And.intro @keepL.eq_2 <|
  And.intro @refless.eq_1 <|
  And.intro @AV.elem.eq_1 <|
  And.intro @AV.elem.eq_2 <|
  And.intro @AV.elem.eq_3 <|
  And.intro @AV.sub.eq_1 <|
  And.intro @AV.sub.eq_2 <|
  And.intro @AV.cellIn.eq_1 <|
  And.intro @AV.setC.eq_1 <|
  And.intro @AV.setSub.eq_1 <|
  And.intro @AV.setSub.eq_2 <|
  And.intro @AV.setCell.eq_1 <|
  @AV.setCell.eq_2
def AI4 :=
  And.intro @AV.setCell.eq_3 <|
  And.intro @AV.setElem.eq_1 <|
  And.intro @AV.setElem.eq_2 <|
  And.intro @AV.setElem.eq_3 <|
  And.intro @setp.eq_1 <|
  And.intro @setp.eq_2 <|
  And.intro @setp.eq_3 <|
  And.intro @setN.eq_1 <|
  And.intro @setN.eq_2 <|
  And.intro @setN.eq_3 <|
  And.intro @updN_cons <|
  And.intro @updN_zero <|
  And.intro @asRef.eq_1 <|
  And.intro @asRef.eq_2 <|
  And.intro @asRef.eq_3 <|
  And.intro @asRef.eq_4 <|
  And.intro @asRef_upN <|
  And.intro @claimT.eq_1 <|
  And.intro @claimL.eq_1 <|
  And.intro @claimL.eq_2 <|
  And.intro @claimL.eq_3 <|
  And.intro @claimC.eq_1 <|
  And.intro @claimA.eq_1 <|
  And.intro @claimA.eq_2 <|
  And.intro @claimTs.eq_1 <|
  And.intro @claimTs.eq_2 <|
  And.intro @claimTs.eq_3 <|
  And.intro @claimY_from0 <|
  And.intro @claimY_fromS <|
  And.intro @claimY_loc0 <|
  And.intro @claimY_locS <|
  And.intro @claimY_all <|
  And.intro @claimY_none <|
  And.intro @claimR_sl <|
  And.intro @claimR_ptr <|
  And.intro @claimR_nil <|
  And.intro @claimLR.eq_1 <|
  And.intro @claimLR.eq_2 <|
  And.intro @claimOR.eq_1 <|
  And.intro @claimOR.eq_2 <|
  And.intro @refsOf.eq_1 <|
  And.intro @refsOf.eq_2 <|
  And.intro @refJ.eq_1 <|
  And.intro @refJ.eq_2 <|
  And.intro @isFrom_sl <|
  And.intro @isFrom_ptr <|
  And.intro @isFrom_slc <|
  And.intro @isFrom_slb <|
  And.intro @isFrom_ptrb <|
  And.intro @isFrom_ptrc <|
  And.intro @baseIs_succ <|
  And.intro @baseIs_sl <|
  And.intro @baseIs_bx <|
  And.intro @rwAt_zero <|
  And.intro @rwAt_succ <|
  And.intro @rwF_zero <|
  And.intro @rwF_succ <|
  And.intro @rwF_updN <|
  And.intro @uncons.eq_1 <|
  @uncons.eq_2
def AI5 :=
  And.intro @mkFin.eq_1 <|
  And.intro @mkFin.eq_2 <|
  And.intro @lit1.eq_1 <|
  And.intro @lit1.eq_2 <|
  And.intro @lit2.eq_1 <|
  And.intro @lit2.eq_2 <|
  And.intro @litFin.eq_1 <|
  And.intro @litIdx.eq_1 <|
  And.intro @litIdx.eq_2 <|
  And.intro @litIdx.eq_3 <|
  And.intro @tmpsOf.eq_1 <|
  And.intro @tmpsOf.eq_2 <|
  And.intro @tmpsOf.eq_3 <|
  And.intro @evL.eq_1 <|
  And.intro @evL.eq_2 <|
  And.intro @plainL.eq_1 <|
  And.intro @plainX.eq_1 <|
  And.intro @isV.eq_1 <|
  And.intro @isV.eq_2 <|
  And.intro @notTup.eq_1 <|
  And.intro @notTup.eq_2 <|
  And.intro @okElem.eq_1 <|
  And.intro @ownJ.eq_1 <|
  And.intro @ownJ.eq_2 <|
  And.intro @appIdx.eq_1 <|
  And.intro @appIdx.eq_2 <|
  And.intro @app2.eq_1 <|
  And.intro @app2.eq_2 <|
  And.intro @appK.eq_1 <|
  And.intro @appK.eq_2 <|
  And.intro @appNil.eq_1 <|
  And.intro @appNilO.eq_1 <|
  And.intro @appNilO.eq_2 <|
  And.intro @appOn.eq_1 <|
  And.intro @appOn.eq_2 <|
  And.intro @appOnO.eq_1 <|
  And.intro @appOnO.eq_2 <|
  And.intro @appSrc.eq_1 <|
  And.intro @appSrc.eq_2 <|
  And.intro @ownSlot.eq_1 <|
  And.intro @ownSlot.eq_2 <|
  And.intro @idxOk.eq_1 <|
  And.intro @store1.eq_1 <|
  And.intro @store1.eq_2 <|
  And.intro @store2.eq_1 <|
  And.intro @store2.eq_2 <|
  And.intro @store3.eq_1 <|
  And.intro @store3.eq_2 <|
  And.intro @storeC1.eq_1 <|
  And.intro @storeC1.eq_2 <|
  And.intro @storeC2.eq_1 <|
  And.intro @storeC2.eq_2 <|
  And.intro @stH.eq_1 <|
  And.intro @stCells.eq_1 <|
  And.intro @stCells.eq_2 <|
  And.intro @stCell.eq_1 <|
  And.intro @stCell.eq_2 <|
  And.intro @box1.eq_1 <|
  And.intro @box1.eq_2 <|
  @box2.eq_1
def AI6 :=
  And.intro @box2.eq_2 <|
  And.intro @mvRun.eq_1 <|
  And.intro @mvRun.eq_2 <|
  And.intro @litMv.eq_1 <|
  And.intro @appMv.eq_1 <|
  And.intro @boxMv.eq_1 <|
  And.intro @apart1.eq_1 <|
  And.intro @skelE.eq_1 <|
  And.intro @skelV.eq_1 <|
  And.intro @skelV.eq_2 <|
  And.intro @mapV.eq_1 <|
  And.intro @mapV.eq_2 <|
  And.intro @mapV.eq_3 <|
  And.intro @zeroAV.eq_1 <|
  And.intro @zeroAV.eq_2 <|
  And.intro @okBounds.eq_1 <|
  And.intro @fillA.eq_1 <|
  And.intro @fillA.eq_2 <|
  And.intro @splice.eq_1 <|
  And.intro @ntup.eq_1 <|
  And.intro @ntup.eq_2 <|
  And.intro @ptrNil.eq_1 <|
  And.intro @ptrNil.eq_2 <|
  And.intro @slNil.eq_1 <|
  And.intro @eqNil.eq_1 <|
  And.intro @eqNil.eq_2 <|
  And.intro @eqNil.eq_3 <|
  And.intro @isNilP.eq_1 <|
  And.intro @isNilP.eq_2 <|
  And.intro @loaded.eq_1 <|
  And.intro @binV.eq_1 <|
  And.intro @binV.eq_2 <|
  And.intro @binV.eq_3 <|
  And.intro @binV.eq_4 <|
  And.intro @binV.eq_5 <|
  And.intro @unV.eq_1 <|
  And.intro @unV.eq_2 <|
  And.intro @unV.eq_3 <|
  And.intro @unV.eq_4 <|
  And.intro @unV.eq_5 <|
  And.intro @unV.eq_6 <|
  And.intro @intBin.eq_1 <|
  And.intro @intBin.eq_2 <|
  And.intro @intBin.eq_3 <|
  And.intro @intBin.eq_4 <|
  And.intro @intBin.eq_5 <|
  And.intro @intBin.eq_6 <|
  And.intro @intBin.eq_7 <|
  And.intro @intBin.eq_8 <|
  And.intro @intBin.eq_9 <|
  And.intro @intBin.eq_10 <|
  And.intro @intBin.eq_11 <|
  And.intro @intBin.eq_12 <|
  And.intro @intBin.eq_13 <|
  And.intro @intBin.eq_14 <|
  And.intro @intBin.eq_15 <|
  And.intro @intBin.eq_16 <|
  And.intro @intBin.eq_17 <|
  And.intro @intShift.eq_1 <|
  @intShift.eq_2
def AI7 :=
  And.intro @intShift.eq_3 <|
  And.intro @strBin.eq_1 <|
  And.intro @strBin.eq_2 <|
  And.intro @strBin.eq_3 <|
  And.intro @strBin.eq_4 <|
  And.intro @strBin.eq_5 <|
  And.intro @strBin.eq_6 <|
  And.intro @strBin.eq_7 <|
  And.intro @strBin.eq_8 <|
  And.intro @callN.eq_1 <|
  And.intro @callN.eq_2 <|
  And.intro @liftL.eq_1 <|
  And.intro @liftL.eq_2 <|
  And.intro @lift.eq_1 <|
  And.intro @lift.eq_2 <|
  And.intro @lift.eq_3 <|
  And.intro @lift.eq_4 <|
  And.intro @lift.eq_5 <|
  And.intro @lift.eq_6 <|
  And.intro @callQ.eq_1 <|
  And.intro @callQ.eq_2 <|
  And.intro @land.eq_1 <|
  And.intro @landO.eq_1 <|
  And.intro @unl.eq_1 <|
  And.intro @unl.eq_2 <|
  And.intro @unl.eq_3 <|
  And.intro @unl.eq_4 <|
  And.intro @aftW.eq_1 <|
  And.intro @retQ.eq_1 <|
  And.intro @retQ.eq_2 <|
  And.intro @retQ.eq_3 <|
  And.intro @retAV.eq_1 <|
  And.intro @retAV.eq_2 <|
  And.intro @retC.eq_1 <|
  And.intro @upOnly.eq_1 <|
  And.intro @upOnly.eq_2 <|
  And.intro @upOnly.eq_3 <|
  And.intro @upOnly.eq_4 <|
  And.intro @upOnly.eq_5 <|
  And.intro @shapeOf.eq_1 <|
  And.intro @shapeOf.eq_2 <|
  And.intro @tupLen.eq_1 <|
  And.intro @tupLen.eq_2 <|
  And.intro @tupLen.eq_3 <|
  And.intro @Option.map_some.{0, 0} <|
  And.intro @Option.map_none.{0, 0} <|
  And.intro @Option.bind_some.{0, 0} <|
  And.intro @Option.bind_none.{0, 0} <|
  And.intro @Option.some.injEq.{0} <|
  And.intro @Option.isSome_some.{0} <|
  And.intro @Option.isSome_none.{0} <|
  And.intro @List.map_cons.{0, 0} <|
  And.intro @List.map_nil.{0, 0} <|
  And.intro @List.all_cons.{0} <|
  And.intro @List.all_nil.{0} <|
  And.intro @List.any_cons.{0} <|
  And.intro @List.any_nil.{0} <|
  And.intro @List.length_cons.{0} <|
  And.intro @List.length_nil.{0} <|
  @List.getElem?_cons_zero.{0}
def AI8 :=
  And.intro @List.getElem?_cons_succ.{0} <|
  And.intro @List.getElem?_nil.{0} <|
  And.intro @List.set_cons_zero.{0} <|
  And.intro @List.set_cons_succ.{0} <|
  And.intro @List.set_nil.{0} <|
  And.intro @List.drop_zero.{0} <|
  And.intro @List.drop_succ_cons.{0} <|
  And.intro @List.drop_nil.{0} <|
  And.intro @List.take_succ_cons.{0} <|
  And.intro @List.take_zero.{0} <|
  And.intro @List.take_nil.{0} <|
  And.intro @List.nil_append.{0} <|
  And.intro @List.cons_append.{0} <|
  And.intro @List.append_nil.{0} <|
  And.intro @List.isEmpty_nil.{0} <|
  And.intro @List.isEmpty_cons.{0} <|
  And.intro @List.contains_cons.{0} <|
  And.intro @List.contains_nil.{0} <|
  And.intro @List.flatMap_cons.{0, 0} <|
  And.intro @List.flatMap_nil.{0, 0} <|
  And.intro @List.mapM_cons.{0, 0, 0} <|
  And.intro @List.mapM_nil.{0, 0, 0} <|
  And.intro @Option.pure_def.{0} <|
  And.intro @Option.bind_eq_bind.{0} <|
  And.intro @LawfulMonad.bind_pure_comp.{0, 0} <|
  And.intro @Functor.map.eq_1.{0, 0} <|
  And.intro @Bool.and_true <|
  And.intro @Bool.true_and <|
  And.intro @Bool.and_false <|
  And.intro @Bool.false_and <|
  And.intro @Bool.or_false <|
  And.intro @Bool.false_or <|
  And.intro @Bool.or_true <|
  And.intro @Bool.true_or <|
  And.intro @Bool.not_true <|
  And.intro @Bool.not_false <|
  And.intro @Bool.false_eq_true <|
  And.intro @Bool.true_eq_false <|
  And.intro @bne_self_eq_false.{0} <|
  And.intro @beq_self_eq_true.{0} <|
  And.intro @if_true.{1} <|
  And.intro @if_false.{1} <|
  And.intro @ite_true.{1} <|
  And.intro @ite_false.{1} <|
  And.intro @decide_true <|
  And.intro @decide_false <|
  And.intro @decide_eq_true_eq <|
  And.intro @and_true <|
  And.intro @true_and <|
  And.intro @and_self <|
  And.intro @and_false <|
  And.intro @false_and <|
  And.intro @or_false <|
  And.intro @false_or <|
  And.intro @or_true <|
  And.intro @true_or <|
  And.intro @not_true_eq_false <|
  And.intro @not_false_eq_true <|
  And.intro @eq_self.{1} <|
  @ne_eq.{1}
def AI9 :=
  And.intro @Nat.add_zero <|
  And.intro @cast0 <|
  And.intro @ge_iff_le.{0} <|
  And.intro @gt_iff_lt.{0} <|
  And.intro @beq00 <|
  And.intro @beqS0 <|
  And.intro @posS <|
  And.intro @bne_tt <|
  And.intro @bne_tf <|
  And.intro @bne_ft <|
  And.intro @bne_ff <|
  And.intro @Nat.le_refl <|
  And.intro @Int.le_refl <|
  And.intro @List.take_length.{0} <|
  And.intro @take_len_map <|
  And.intro @getA <|
  And.intro @setA <|
  And.intro @getB <|
  And.intro @setB <|
  And.intro @Nat.zero_add <|
  And.intro @Int.cast_ofNat_Int <|
  And.intro @List.toList_toArray.{0} <|
  And.intro @Nat.lt_irrefl <|
  And.intro @Base.sl.injEq <|
  And.intro @Base.bx.injEq <|
  And.intro @Pl.mk.injEq <|
  And.intro @Nat.succ_ne_zero <|
  And.intro @Nat.sub_zero <|
  And.intro @exists_eq_left.{1} <|
  And.intro @exists_eq_left'.{1} <|
  And.intro @exists_eq_right.{1} <|
  And.intro @forall_const.{1} <|
  And.intro @forall_eq.{1} <|
  And.intro @Int.toNat_natCast <|
  And.intro @List.length_map.{0, 0} <|
  And.intro @List.length_append.{0} <|
  And.intro @List.length_replicate.{0} <|
  And.intro @List.length_set.{0} <|
  And.intro @List.getElem?_map.{0, 0} <|
  And.intro @Nat.mul_one <|
  And.intro @Nat.zero_mul <|
  And.intro @Nat.add_one_ne_zero <|
  And.intro @Option.getD_some.{0} <|
  And.intro @Option.getD_none.{0} <|
  And.intro @Int.toNat_zero <|
  @Option.map_eq_map.{0}
end Go.Proofs.Ythlehngbadianaa.Ai
