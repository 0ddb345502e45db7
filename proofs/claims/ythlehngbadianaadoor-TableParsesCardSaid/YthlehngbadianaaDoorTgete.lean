/- What the functions of the program do, each once: contracts of the logic (part ge te). -/
import Derived.Test.YthlehngbadianaaDoorOwEntry
import Derived.Test.YthlehngbadianaaDoorTd1g1
import Derived.WalkKit
import Derived.ProofKit
import Derived.OpenShut
import Derived.ShutString
import Derived.ChangeOld
import Derived.ChangeMaps5
import Derived.Below
import Derived.Test.YthlehngbadianaaDoorTu1u2
set_option linter.unusedVariables false
set_option linter.unusedSimpArgs false
set_option linter.unnecessarySimpa false
set_option maxRecDepth 100000
namespace Go.Proofs.YthlehngbadianaaDoor.Ow
open Go Go.RowKit Go.Proofs
def rI (n : Int) : Prop := -9223372036854775808 ≤ n ∧ n < 9223372036854775808
theorem lists_in {α : Type} (f : α → AV) (cv : α → List Value) (hf : ∀ x, (f x).cells = (cv x).map .v) (hone : ∀ x, ∀ v ∈ cv x, v.oneCell' = true) (ok : α → Prop) {es : Nat} (hes : 0 < es) {W : World} {v : Value}
    (h : v = .slice none 0 0 ∨ ∃ (B o cap : Nat) (css : List (List Value)), v = .slice (some ⟨B, o, none⟩) css.length cap ∧ css.length ≤ cap ∧ cap ≤ maxLen ∧ (∀ cs ∈ css, cs.length = es ∧ ∃ x, cs = cv x ∧ ok x) ∧
      (∀ (i : Nat) (cs : List Value), css[i]? = some cs → ∀ (j : Nat) (u : Value), cs[j]? = some u → W.cell? ⟨B, o + i * es + j, none⟩ = some u)) :
    ∃ l : List α, (∀ x ∈ l, ok x) ∧ Rep W E0 (.lst es (l.map f)) v E0 := by
  rcases h with rfl | ⟨B, o, cap, css, rfl, h1, h2, h3, h4⟩
  · exact ⟨[], by simp, .lstN fun _ _ h => h⟩
  · have key : ∃ l : List α, css = l.map cv ∧ ∀ x ∈ l, ok x := by
      clear h1 h4
      induction css with
      | nil => exact ⟨[], rfl, by simp⟩
      | cons cs css ih =>
        obtain ⟨_, x, rfl, ho⟩ := h3 _ (List.mem_cons_self ..)
        obtain ⟨l, rfl, hl⟩ := ih fun c hc => h3 c (List.mem_cons_of_mem _ hc)
        refine ⟨x :: l, rfl, fun r hr => ?_⟩
        rcases List.mem_cons.1 hr with rfl | hr
        · exact ho
        · exact hl r hr
    obtain ⟨l, rfl, hl⟩ := key
    refine ⟨l, hl, lst_in hes (fun _ _ h => h) (by simp) h1 ?_ h4⟩
    intro i x cs hx hcs
    rw [List.getElem?_map, Option.map_eq_some_iff] at hx hcs
    obtain ⟨r, hr, rfl⟩ := hx
    obtain ⟨r', hr', rfl⟩ := hcs
    rw [hr] at hr'
    obtain rfl := Option.some.inj hr'
    exact ⟨hf r, (h3 _ (List.mem_map_of_mem (List.mem_of_getElem? hr))).1, hone r⟩
section
variable {H : Type} {enc : TypeId × Value → H} {w : World} {n : Nat} {t : TypeId} {cs : List Value} {y : DataW H × List MemPlace}
theorem int_in (ht : Tryd.prog.underlying t = some (.int .i64)) {v : Value} (h : DataW.trod enc Tryd.prog w 0 (fun _ => true) true n t [v] = some y) : ∃ k, v = .int .i64 k ∧ rI k := by
  obtain ⟨k, e, _, hw⟩ := DataW.trod_int ht h
  simp at e
  subst e
  have m1 : IntKind.i64.min = -9223372036854775808 := rfl
  have m2 : IntKind.i64.max = 9223372036854775807 := rfl
  simp only [Lit.wf, Bool.and_eq_true, decide_eq_true_eq, m1, m2] at hw
  exact ⟨k, rfl, by omega, by omega⟩
theorem str_in {v : Value} (h : DataW.trod enc Tryd.prog w 0 (fun _ => true) true n 9 [v] = some y) : ∃ s, v = .string s := by
  obtain ⟨s, e, _⟩ := DataW.trod_string Tryd.underlying9 h
  simp at e
  exact ⟨s, e⟩
theorem fld_in {fs : Array Field} (ht : Tryd.prog.underlying t = some (.struct fs)) (h : DataW.trod enc Tryd.prog w 0 (fun _ => true) true n t cs = some y) :
    cs.length = Tryd.prog.cellsOf t ∧ ∃ m, ∀ (i : Nat) f, fs[i]? = some f → Tryd.prog.cellsOf f.type = 1 → ∀ v, cs[f.offset]? = some v → ∃ y, DataW.trod enc Tryd.prog w 0 (fun _ => true) true m f.type [v] = some y := by
  obtain ⟨xs, n', _, _, hl, hx, hf⟩ := DataW.trod_struct ht h
  refine ⟨hl, n', fun i f hi h1 v hv => ?_⟩
  have := hf i f hi
  have e : (cs.drop f.offset).take (Tryd.prog.cellsOf f.type) = [v] := by
    rw [h1]
    obtain ⟨hlt, rfl⟩ := List.getElem?_eq_some_iff.1 hv
    rw [List.drop_eq_getElem_cons hlt]; rfl
  rw [e] at this
  have hi' : i < fs.size := by
    rcases Nat.lt_or_ge i fs.size with h | h
    · exact h
    · simp [Array.getElem?_eq_none h] at hi
  exact ⟨xs[i]'(by rw [hx]; simpa using hi'), by rw [this, List.getElem?_eq_getElem]⟩
theorem cell9 : Tryd.prog.cellsOf 9 = 1 := by kernel_rfl
theorem cell3 : Tryd.prog.cellsOf 3 = 1 := by kernel_rfl
theorem cell2 : Tryd.prog.cellsOf 2 = 1 := by kernel_rfl
def clV (c : Cl) : List Value := [.string c.1, .int .i64 c.2]
def loV (l : Lo) : List Value := [.string l.1, .int .i64 l.2.1, .int .i64 l.2.2]
def opV (o : O6) : List Value := [.string o.nm, .int .i64 o.k, .int .i64 o.lo, .int .i64 o.at_, .int .i64 o.a, .int .i64 o.b]
def chV (c : Ch) : List Value := [.int .i64 c.1, .int .i64 c.2]
theorem list2 {l : List Value} (h : l.length = 2) : ∃ a b, l = [a, b] := by match l, h with | [a, b], _ => exact ⟨a, b, rfl⟩
theorem list3 {l : List Value} (h : l.length = 3) : ∃ a b c, l = [a, b, c] := by match l, h with | [a, b, c], _ => exact ⟨a, b, c, rfl⟩
theorem list6 {l : List Value} (h : l.length = 6) : ∃ a b c d e f, l = [a, b, c, d, e, f] := by match l, h with | [a, b, c, d, e, f], _ => exact ⟨a, b, c, d, e, f, rfl⟩
theorem cl_in (h : DataW.trod enc Tryd.prog w 0 (fun _ => true) true n 67 cs = some y) : ∃ x : Cl, cs = clV x ∧ rI x.2 := by
  obtain ⟨hl, m, hf⟩ := fld_in Tryd.underlying67 h
  have hc : Tryd.prog.cellsOf 67 = 2 := by kernel_rfl
  rw [hc] at hl
  obtain ⟨a, b, rfl⟩ := list2 hl
  obtain ⟨_, h0⟩ := hf 0 _ rfl cell9 a rfl
  obtain ⟨_, h1⟩ := hf 1 _ rfl cell3 b rfl
  obtain ⟨s, rfl⟩ := str_in h0
  obtain ⟨k, rfl, r1⟩ := int_in Tryd.underlying3 h1
  exact ⟨(s, k), rfl, r1⟩
theorem lo_in (h : DataW.trod enc Tryd.prog w 0 (fun _ => true) true n 69 cs = some y) : ∃ x : Lo, cs = loV x ∧ rI x.2.1 ∧ rI x.2.2 := by
  obtain ⟨hl, m, hf⟩ := fld_in Tryd.underlying69 h
  have hc : Tryd.prog.cellsOf 69 = 3 := by kernel_rfl
  rw [hc] at hl
  obtain ⟨a, b, c, rfl⟩ := list3 hl
  obtain ⟨_, h0⟩ := hf 0 _ rfl cell9 a rfl
  obtain ⟨_, h1⟩ := hf 1 _ rfl cell3 b rfl
  obtain ⟨_, h2⟩ := hf 2 _ rfl cell3 c rfl
  obtain ⟨s, rfl⟩ := str_in h0
  obtain ⟨k, rfl, r1⟩ := int_in Tryd.underlying3 h1
  obtain ⟨k2, rfl, r2⟩ := int_in Tryd.underlying3 h2
  exact ⟨(s, k, k2), rfl, r1, r2⟩
def rO (o : O6) : Prop := rI o.k ∧ rI o.lo ∧ rI o.at_ ∧ rI o.a ∧ rI o.b
theorem op_in (h : DataW.trod enc Tryd.prog w 0 (fun _ => true) true n 71 cs = some y) : ∃ x : O6, cs = opV x ∧ rO x := by
  obtain ⟨hl, m, hf⟩ := fld_in Tryd.underlying71 h
  have hc : Tryd.prog.cellsOf 71 = 6 := by kernel_rfl
  rw [hc] at hl
  obtain ⟨a, b, c, d, e, f, rfl⟩ := list6 hl
  obtain ⟨_, h0⟩ := hf 0 _ rfl cell9 a rfl
  obtain ⟨_, h1⟩ := hf 1 _ rfl cell3 b rfl
  obtain ⟨_, h2⟩ := hf 2 _ rfl cell3 c rfl
  obtain ⟨_, h3⟩ := hf 3 _ rfl cell3 d rfl
  obtain ⟨_, h4⟩ := hf 4 _ rfl cell2 e rfl
  obtain ⟨_, h5⟩ := hf 5 _ rfl cell2 f rfl
  obtain ⟨s, rfl⟩ := str_in h0
  obtain ⟨k1, rfl, r1⟩ := int_in Tryd.underlying3 h1
  obtain ⟨k2, rfl, r2⟩ := int_in Tryd.underlying3 h2
  obtain ⟨k3, rfl, r3⟩ := int_in Tryd.underlying3 h3
  obtain ⟨k4, rfl, r4⟩ := int_in Tryd.underlying2 h4
  obtain ⟨k5, rfl, r5⟩ := int_in Tryd.underlying2 h5
  exact ⟨⟨s, k1, k2, k3, k4, k5⟩, rfl, r1, r2, r3, r4, r5⟩
theorem ch_in (h : DataW.trod enc Tryd.prog w 0 (fun _ => true) true n 80 cs = some y) : ∃ x : Ch, cs = chV x ∧ rI x.1 ∧ rI x.2 := by
  obtain ⟨hl, m, hf⟩ := fld_in Tryd.underlying80 h
  have hc : Tryd.prog.cellsOf 80 = 2 := by kernel_rfl
  rw [hc] at hl
  obtain ⟨a, b, rfl⟩ := list2 hl
  obtain ⟨_, h0⟩ := hf 0 _ rfl cell3 a rfl
  obtain ⟨_, h1⟩ := hf 1 _ rfl cell3 b rfl
  obtain ⟨k, rfl, r0⟩ := int_in Tryd.underlying3 h0
  obtain ⟨k2, rfl, r1⟩ := int_in Tryd.underlying3 h1
  exact ⟨(k, k2), rfl, r0, r1⟩
end
/-- A graph that comes in. -/
structure GrIn (W : World) (g : Gr) (v : Value) : Prop where
  val : ∃ s0 s1 s2 s3, v = .agg #[s0, s1, s2, s3] ∧ Rep W E0 (.lst 2 (g.cl.map clA)) s0 E0 ∧ Rep W E0 (.lst 3 (g.lo.map loA)) s1 E0 ∧ Rep W E0 (.lst 6 (g.op.map opA)) s2 E0 ∧ Rep W E0 (.lst 2 (g.ch.map chA)) s3 E0
  cl : ∀ x ∈ g.cl, rI x.2
  lo : ∀ x ∈ g.lo, rI x.2.1 ∧ rI x.2.2
  op : ∀ x ∈ g.op, rO x
  ch : ∀ x ∈ g.ch, rI x.1 ∧ rI x.2
theorem GrIn.sv {W : World} {g : Gr} {v : Value} (h : GrIn W g v) (env : Nat → RLoc) (rt : Al) : SV W E0 env rt (gA g) v := by
  obtain ⟨s0, s1, s2, s3, rfl, h0, h1, h2, h3⟩ := h.val
  refine ⟨_, rfl, rfl, fun i c u hc hu => ?_⟩
  match i with
  | 0 => simp at hc hu; subst hc hu; exact LR.of_rep h0
  | 1 => simp at hc hu; subst hc hu; exact LR.of_rep h1
  | 2 => simp at hc hu; subst hc hu; exact LR.of_rep h2
  | 3 => simp at hc hu; subst hc hu; exact LR.of_rep h3
  | i + 4 => simp at hc
theorem graph_in {H : Type} {enc : TypeId × Value → H} {W : World} {base : Nat} {v : Value} {d : DataW H} {p : List MemPlace} (hv : Value.okWide Tryd.prog W .any base 35 v) (h : DataW.Trod enc Tryd.prog W 0 (fun _ => true) true 35 v d p) : ∃ g, GrIn W g v := by
  simp only [Value.okWide, Tryd.underlying35] at hv
  obtain ⟨cs, rfl, hsz, ts, hts, _, hcell⟩ := hv
  have ht : Tryd.prog.cellTypes Tryd.prog.depth 35 = some [30, 31, 32, 33] := by kernel_rfl
  rw [ht] at hts
  obtain rfl := Option.some.inj hts
  have hc : Tryd.prog.cellsOf 35 = 4 := by kernel_rfl
  rw [hc] at hsz
  obtain ⟨a0, a1, a2, a3, rfl⟩ : ∃ a0 a1 a2 a3, cs = #[a0, a1, a2, a3] := by
    have h1 : cs.toList.length = 4 := by simpa using hsz
    match hcs : cs.toList, h1 with
    | [a0, a1, a2, a3], _ => exact ⟨a0, a1, a2, a3, by rw [← Array.toArray_toList (xs := cs), hcs]⟩
  obtain ⟨fuel, hf⟩ := h
  simp only [Value.cells] at hf
  obtain ⟨_, m, hfl⟩ := fld_in Tryd.underlying35 hf
  have c70 : Tryd.prog.cellsOf 30 = 1 := by kernel_rfl
  have c71 : Tryd.prog.cellsOf 31 = 1 := by kernel_rfl
  have c72 : Tryd.prog.cellsOf 32 = 1 := by kernel_rfl
  have c73 : Tryd.prog.cellsOf 33 = 1 := by kernel_rfl
  obtain ⟨_, g0⟩ := hfl 0 _ rfl c70 a0 rfl
  obtain ⟨_, g1⟩ := hfl 1 _ rfl c71 a1 rfl
  obtain ⟨_, g2⟩ := hfl 2 _ rfl c72 a2 rfl
  obtain ⟨_, g3⟩ := hfl 3 _ rfl c73 a3 rfl
  obtain ⟨u0, e0, k0⟩ := hcell 0 a0 rfl
  obtain ⟨u1, e1, k1⟩ := hcell 1 a1 rfl
  obtain ⟨u2, e2, k2⟩ := hcell 2 a2 rfl
  obtain ⟨u3, e3, k3⟩ := hcell 3 a3 rfl
  simp at e0 e1 e2 e3
  subst e0 e1 e2 e3
  obtain ⟨l0, o0, r0⟩ := lists_in clA clV (fun _ => rfl) (fun x v hv => by simp [clV] at hv; rcases hv with rfl | rfl <;> rfl) (fun x => rI x.2) (by decide)
    (slice_in (es := 2) Tryd.underlying30 (by kernel_rfl) k0 g0 (fun cs => ∃ x : Cl, cs = clV x ∧ rI x.2) (fun n cs y hy => cl_in hy))
  obtain ⟨l1, o1, r1⟩ := lists_in loA loV (fun _ => rfl) (fun x v hv => by simp [loV] at hv; rcases hv with rfl | rfl | rfl <;> rfl) (fun x => rI x.2.1 ∧ rI x.2.2) (by decide)
    (slice_in (es := 3) Tryd.underlying31 (by kernel_rfl) k1 g1 (fun cs => ∃ x : Lo, cs = loV x ∧ rI x.2.1 ∧ rI x.2.2) (fun n cs y hy => lo_in hy))
  obtain ⟨l2, o2, r2⟩ := lists_in opA opV (fun _ => rfl) (fun x v hv => by simp [opV] at hv; rcases hv with rfl | rfl | rfl | rfl | rfl | rfl <;> rfl) rO (by decide)
    (slice_in (es := 6) Tryd.underlying32 (by kernel_rfl) k2 g2 (fun cs => ∃ x : O6, cs = opV x ∧ rO x) (fun n cs y hy => op_in hy))
  obtain ⟨l3, o3, r3⟩ := lists_in chA chV (fun _ => rfl) (fun x v hv => by simp [chV] at hv; rcases hv with rfl | rfl <;> rfl) (fun x => rI x.1 ∧ rI x.2) (by decide)
    (slice_in (es := 2) Tryd.underlying33 (by kernel_rfl) k3 g3 (fun cs => ∃ x : Ch, cs = chV x ∧ rI x.1 ∧ rI x.2) (fun n cs y hy => ch_in hy))
  exact ⟨⟨l0, l1, l2, l3⟩, ⟨⟨_, _, _, _, rfl, r0, r1, r2, r3⟩, o0, o1, o2, o3⟩⟩
end Go.Proofs.YthlehngbadianaaDoor.Ow
set_option maxRecDepth 100000
namespace Go.Proofs.YthlehngbadianaaDoor.Ow
open Go Go.RowKit Go.Proofs
section
variable {H : Type} {enc : TypeId × Value → H} {w : World} {n : Nat} {cs : List Value} {v : Value} {y : DataW H × List MemPlace}
end
/-- A plan that comes in. -/
structure PlIn (W : World) (p : Pn) (v : Value) : Prop where
  val : ∃ s0 s1, v = .agg #[s0, s1] ∧ Rep W E0 (.lst 1 (p.re.map nmA)) s0 E0 ∧ Rep W E0 (.lst 3 (p.rt.map rtA)) s1 E0
theorem PlIn.sv {W : World} {p : Pn} {v : Value} (h : PlIn W p v) (env : Nat → RLoc) (rt : Al) : SV W E0 env rt (plA p) v := by
  obtain ⟨s0, s1, rfl, h0, h1⟩ := h.val
  refine ⟨_, rfl, rfl, fun i c u hc hu => ?_⟩
  match i with
  | 0 => simp at hc hu; subst hc hu; exact LR.of_rep h0
  | 1 => simp at hc hu; subst hc hu; exact LR.of_rep h1
  | i + 2 => simp at hc
end Go.Proofs.YthlehngbadianaaDoor.Ow
