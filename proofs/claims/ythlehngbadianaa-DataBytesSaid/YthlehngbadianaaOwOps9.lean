/- Boxes; all stores. -/
import Derived.Test.YthlehngbadianaaOwOps8
set_option linter.unusedVariables false
set_option linter.unusedSimpArgs false
set_option linter.unnecessarySimpa false
namespace Go.Proofs.Ythlehngbadianaa.Ow
open Go Go.RowKit

def putAll : AV → AV
  | .agg cs => .agg (cs.map cellPut)
  | .tup cs => .tup (cs.map cellPut)
  | c => cellPut c
theorem putAll_cells {y : AV} (hn : ntup y = true) : (putAll y).cells = y.cells.map cellPut := by
  by_cases h : ∃ as, y = .agg as
  · obtain ⟨as, rfl⟩ := h; rfl
  · have hone : y.one = true := by cases y <;> simp_all [AV.one, ntup]
    rw [AV.cells_one hone]
    cases y <;> first | rfl | (simp_all [AV.one]; done) | (rw [AV.cells_one]; rfl; exact cellPut_one rfl)
/-- A box is made of a slot's value. -/
def box1 (d t : Nat) (st : St) : Option AV → Option St
  | some y =>
    if ntup y = true then
      if y.cells.all stor then some ((st.new (1000 + d) y).set d (.ref ⟨1000 + d, [], 0⟩))
      else
        let st1 := st.new (1000 + d) (putAll y)
        some (({ st1 with rf := rfNew (notR (1000 + d)) (1000 + d) 0 y.cells ++ st1.rf } : St).set d (.ref ⟨1000 + d, [], 0⟩))
    else none
  | none => none

section
variable {P : Program} {w : World} {F X : Fp} {env : Nat → RLoc} {n : Nat} {a : Act} {st : St} {rt : Al}

theorem box_sound {o : Oper} {ty : TypeId} {t d : Nat} {b : Bool} {K : Post} (hop : o.op = .box ty (.tmp t)) (hd : o.dst = some d) (hdn : d < n) (hn : n ≤ 1000) {st' : St} (hs : box1 d t st (st.sl.get t) = some st') (hk : K st') : AOpC b P n o st K := by
  intro w F env a h
  cases hy : st.sl.get t with
  | none => simp [hy, box1] at hs
  | some y =>
    simp only [hy, box1] at hs
    split at hs
    case isFalse => simp at hs
    rename_i c1
    have hsv := h.sv t y hy
    obtain ⟨e1, e2⟩ := hsv.cells c1
    have hexec : (execOp a.eval o).run P w = .ok (.value (.pointer (some ⟨w.heap.size, 0, none⟩))) (w.alloc (.cells (a.tmps.getD t undef).cells ty)) := by
      unfold execOp
      simp [hop, Act.eval, Instr.box, newVar, newRow]
    have hbel : Below w.heap.size w (w.alloc (.cells (a.tmps.getD t undef).cells ty)) := (Below.refl _ _).alloc (Nat.le_refl _) _
    simp only [Oper.wp, hexec, Oper.upon, hd]
    refine ⟨fun _ => hbel, ?_⟩
    have hkp : ∀ T : Fp, Kp w F (w.alloc (.cells (a.tmps.getD t undef).cells ty)) (fun b a' => F b a' ∨ (b = w.heap.size ∧ a' < y.cells.length)) T := fun T =>
      ⟨⟨E0, Agree.below hbel _, fun _ _ h => h.elim, fun _ _ _ h => h⟩, by
        rintro b a' (hh | ⟨rfl, _⟩)
        · exact .inl hh
        · exact .inr (Nat.le_refl _)⟩
    have hmain : ∀ x : AV, x.cells.length = y.cells.length → (∀ (i : Nat) c v, x.cells[i]? = some c → (a.tmps.getD t undef).cells[i]? = some v → Rep w F c v E0) →
        Rel (w.alloc (.cells (a.tmps.getD t undef).cells ty)) (fun b a' => F b a' ∨ (b = w.heap.size ∧ a' < y.cells.length)) E0 (fun r' => if r' = 1000 + d then .mem w.heap.size 0 else env r') n a (st.new (1000 + d) x) ∧
        Tr w F env (w.alloc (.cells (a.tmps.getD t undef).cells ty)) (fun b a' => F b a' ∨ (b = w.heap.size ∧ a' < y.cells.length)) (fun r' => if r' = 1000 + d then .mem w.heap.size 0 else env r') := by
      intro x hxl hx
      refine h.newRoot hbel (r := 1000 + d) (pin_loc hdn hn 0 (by omega)) (x := x) (l := .mem w.heap.size 0) (S := fun b a' => b = w.heap.size ∧ a' < y.cells.length) (by rintro b a' ⟨rfl, _⟩; simp) ?_ ⟨fun _ => ⟨_, _, rfl⟩, fun h => by simp [VB] at h; omega⟩
      refine Nd.fresh hxl (Blk_alloc (by rw [e1]; exact Nat.le_refl _)) ?_
      intro i c hc
      have hi := (List.getElem?_eq_some_iff.1 hc).1
      have hv : (a.tmps.getD t undef).cells[i]? = some ((a.tmps.getD t undef).cells[i]'(by rw [e1, ← hxl]; exact hi)) := Array.getElem?_eq_getElem _
      exact ⟨_, by rw [cell_alloc_new]; exact hv, (hx i c _ hc hv).keep (hkp _)⟩
    split at hs
    · rename_i hall
      obtain rfl := Option.some.inj hs
      obtain ⟨k1, k2⟩ := hmain y rfl (fun i c v hc hv => (e2 i c v hc hv).rep (List.all_eq_true.1 hall c (List.mem_of_getElem? hc)))
      exact ⟨_, _, _, hk, k1.set hdn ref_new, k2⟩
    · rename_i hall
      obtain rfl := Option.some.inj hs
      obtain ⟨k1, k2⟩ := hmain (putAll y) (by rw [putAll_cells c1, List.length_map]) (by
        intro i c v hc hv
        rw [putAll_cells c1, List.getElem?_map, Option.map_eq_some_iff] at hc
        obtain ⟨c0, hc0, rfl⟩ := hc
        have hlr := e2 i c0 v hc0 hv
        unfold cellPut
        split
        · rename_i hst; exact hlr.rep hst
        · exact .junk hlr.one fun _ _ h => h)
      have k3 := k1.addRf (rfNew (notR (1000 + d)) (1000 + d) 0 y.cells) (by
        intro e he
        obtain ⟨i, c, hc, rfl⟩ := rfNew_mem _ _ _ _ _ he
        have hil := (List.getElem?_eq_some_iff.1 hc).1
        have hv : (a.tmps.getD t undef).cells[i]? = some ((a.tmps.getD t undef).cells[i]'(by rw [e1]; exact hil)) := Array.getElem?_eq_getElem _
        refine ⟨w.heap.size, 0, _, by simp only [if_true], ⟨putAll y, St.new_get _ _ _, by rw [putAll_cells c1, List.length_map]; simp; exact hil⟩, by rw [cell_alloc_new]; simp only [Nat.zero_add]; exact hv, ?_⟩
        have hg := k1.sv t (cutV (notR (1000 + d)) y) (by simp only [St.new, St.drop, cutSl_get, hy, Option.map_some])
        exact cutV_cells hg c1 hc hv)
      exact ⟨_, _, _, hk, k3.set hdn ref_new, k2⟩

theorem store_sound {o : Oper} {ty : TypeId} {xo yo : Operand} {ox oy : Opd} {m : Nat} {K : Post} (hop : o.op = .store ty xo yo) (hd : o.dst = none) (hox : opd xo = some ox) (hoy : opd yo = some oy) (hsz : sizeT P ty = some m)
    {st' : St} (hs : store1 m st (st.ev ox) (st.ev oy) = some st') (hk : K st') : AOp P n o st K := by
  unfold store1 at hs
  split at hs
  · rename_i p y hx hy
    unfold storeP at hs
    split at hs
    · rename_i q es off len
      split at hs
      · rename_i hne
        split at hs
        · rename_i hm
          subst hm
          exact storeM_sound hop hd hox hoy hsz hx hy hne hs hk
        · simp at hs
      · exact storeL_sound hop hd hox hoy hsz hx hy hs hk
    · exact storeL_sound hop hd hox hoy hsz hx hy hs hk
  · simp at hs
end
end Go.Proofs.Ythlehngbadianaa.Ow
