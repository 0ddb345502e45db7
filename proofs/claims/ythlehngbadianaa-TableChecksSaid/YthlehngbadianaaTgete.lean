/- What the functions of the program do, each once: contracts of the logic (part ge te). -/
import Derived.Test.YthlehngbadianaaOwEntry
import Derived.Test.YthlehngbadianaaTd1g1
import Derived.WalkKit
import Derived.ProofKit
import Derived.OpenShut
import Derived.ShutString
import Derived.ChangeOld
import Derived.ChangeMaps5
import Derived.Below
import Derived.Test.YthlehngbadianaaTu1u2
set_option linter.unusedVariables false
set_option linter.unusedSimpArgs false
set_option linter.unnecessarySimpa false
set_option maxRecDepth 100000
namespace Go.Proofs.Ythlehngbadianaa.Ow
open Go Go.RowKit Go.Proofs
def rI (n : Int) : Prop := -9223372036854775808 ≤ n ∧ n < 9223372036854775808
theorem lists_in {α : Type} (f : α → AV) (cv : α → List Value) (hf : ∀ x, (f x).cells = (cv x).map .v) (hone : ∀ x, ∀ v ∈ cv x, v.oneCell' = true) (ok : α → Prop) {es : Nat} (hes : 0 < es) {W : World} {v : Value}
    (h : v = .slice none 0 0 ∨ ∃ (B o cap : Nat) (css : List (List Value)), v = .slice (some ⟨B, o, none⟩) css.length cap ∧ css.length ≤ cap ∧ cap ≤ maxLen ∧ (∀ cs ∈ css, cs.length = es ∧ ∃ x, cs = cv x ∧ ok x) ∧
      (∀ (i : Nat) (cs : List Value), css[i]? = some cs → ∀ (j : Nat) (u : Value), cs[j]? = some u → W.cell? ⟨B, o + i * es + j, none⟩ = some u)) :
    ∃ l : List α, (∀ x ∈ l, ok x) ∧ Rep W E0 (.lst es (l.map f)) v E0 := by
  rcases h with rfl | ⟨B, o, cap, css, rfl, h1, h2, h3, h4⟩
  · exact ⟨[], by simp, .lstN fun _ _ h => h⟩
  · have key : ∃ l : List α, css = l.map cv ∧ ∀ x ∈ l, ok x := by
      clear h1 h4
      induction css with
      | nil => exact ⟨[], rfl, by simp⟩
      | cons cs css ih =>
        obtain ⟨_, x, rfl, ho⟩ := h3 _ (List.mem_cons_self ..)
        obtain ⟨l, rfl, hl⟩ := ih fun c hc => h3 c (List.mem_cons_of_mem _ hc)
        refine ⟨x :: l, rfl, fun r hr => ?_⟩
        rcases List.mem_cons.1 hr with rfl | hr
        · exact ho
        · exact hl r hr
    obtain ⟨l, rfl, hl⟩ := key
    refine ⟨l, hl, lst_in hes (fun _ _ h => h) (by simp) h1 ?_ h4⟩
    intro i x cs hx hcs
    rw [List.getElem?_map, Option.map_eq_some_iff] at hx hcs
    obtain ⟨r, hr, rfl⟩ := hx
    obtain ⟨r', hr', rfl⟩ := hcs
    rw [hr] at hr'
    obtain rfl := Option.some.inj hr'
    exact ⟨hf r, (h3 _ (List.mem_map_of_mem (List.mem_of_getElem? hr))).1, hone r⟩
section
variable {H : Type} {enc : TypeId × Value → H} {w : World} {n : Nat} {t : TypeId} {cs : List Value} {y : DataW H × List MemPlace}
theorem int_in (ht : Try.prog.underlying t = some (.int .i64)) {v : Value} (h : DataW.trod enc Try.prog w 0 (fun _ => true) true n t [v] = some y) : ∃ k, v = .int .i64 k ∧ rI k := by
  obtain ⟨k, e, _, hw⟩ := DataW.trod_int ht h
  simp at e
  subst e
  have m1 : IntKind.i64.min = -9223372036854775808 := rfl
  have m2 : IntKind.i64.max = 9223372036854775807 := rfl
  simp only [Lit.wf, Bool.and_eq_true, decide_eq_true_eq, m1, m2] at hw
  exact ⟨k, rfl, by omega, by omega⟩
theorem str_in {v : Value} (h : DataW.trod enc Try.prog w 0 (fun _ => true) true n 9 [v] = some y) : ∃ s, v = .string s := by
  obtain ⟨s, e, _⟩ := DataW.trod_string Try.underlying9 h
  simp at e
  exact ⟨s, e⟩
theorem fld_in {fs : Array Field} (ht : Try.prog.underlying t = some (.struct fs)) (h : DataW.trod enc Try.prog w 0 (fun _ => true) true n t cs = some y) :
    cs.length = Try.prog.cellsOf t ∧ ∃ m, ∀ (i : Nat) f, fs[i]? = some f → Try.prog.cellsOf f.type = 1 → ∀ v, cs[f.offset]? = some v → ∃ y, DataW.trod enc Try.prog w 0 (fun _ => true) true m f.type [v] = some y := by
  obtain ⟨xs, n', _, _, hl, hx, hf⟩ := DataW.trod_struct ht h
  refine ⟨hl, n', fun i f hi h1 v hv => ?_⟩
  have := hf i f hi
  have e : (cs.drop f.offset).take (Try.prog.cellsOf f.type) = [v] := by
    rw [h1]
    obtain ⟨hlt, rfl⟩ := List.getElem?_eq_some_iff.1 hv
    rw [List.drop_eq_getElem_cons hlt]; rfl
  rw [e] at this
  have hi' : i < fs.size := by
    rcases Nat.lt_or_ge i fs.size with h | h
    · exact h
    · simp [Array.getElem?_eq_none h] at hi
  exact ⟨xs[i]'(by rw [hx]; simpa using hi'), by rw [this, List.getElem?_eq_getElem]⟩
theorem cell9 : Try.prog.cellsOf 9 = 1 := by kernel_rfl
theorem cell3 : Try.prog.cellsOf 3 = 1 := by kernel_rfl
theorem cell2 : Try.prog.cellsOf 2 = 1 := by kernel_rfl
def clV (c : Cl) : List Value := [.string c.1, .int .i64 c.2]
def loV (l : Lo) : List Value := [.string l.1, .int .i64 l.2.1, .int .i64 l.2.2]
def opV (o : O6) : List Value := [.string o.nm, .int .i64 o.k, .int .i64 o.lo, .int .i64 o.at_, .int .i64 o.a, .int .i64 o.b]
def chV (c : Ch) : List Value := [.int .i64 c.1, .int .i64 c.2]
theorem list2 {l : List Value} (h : l.length = 2) : ∃ a b, l = [a, b] := by match l, h with | [a, b], _ => exact ⟨a, b, rfl⟩
theorem list3 {l : List Value} (h : l.length = 3) : ∃ a b c, l = [a, b, c] := by match l, h with | [a, b, c], _ => exact ⟨a, b, c, rfl⟩
theorem list6 {l : List Value} (h : l.length = 6) : ∃ a b c d e f, l = [a, b, c, d, e, f] := by match l, h with | [a, b, c, d, e, f], _ => exact ⟨a, b, c, d, e, f, rfl⟩
theorem cl_in (h : DataW.trod enc Try.prog w 0 (fun _ => true) true n 192 cs = some y) : ∃ x : Cl, cs = clV x ∧ rI x.2 := by
  obtain ⟨hl, m, hf⟩ := fld_in Try.underlying192 h
  have hc : Try.prog.cellsOf 192 = 2 := by kernel_rfl
  rw [hc] at hl
  obtain ⟨a, b, rfl⟩ := list2 hl
  obtain ⟨_, h0⟩ := hf 0 _ rfl cell9 a rfl
  obtain ⟨_, h1⟩ := hf 1 _ rfl cell3 b rfl
  obtain ⟨s, rfl⟩ := str_in h0
  obtain ⟨k, rfl, r1⟩ := int_in Try.underlying3 h1
  exact ⟨(s, k), rfl, r1⟩
theorem lo_in (h : DataW.trod enc Try.prog w 0 (fun _ => true) true n 194 cs = some y) : ∃ x : Lo, cs = loV x ∧ rI x.2.1 ∧ rI x.2.2 := by
  obtain ⟨hl, m, hf⟩ := fld_in Try.underlying194 h
  have hc : Try.prog.cellsOf 194 = 3 := by kernel_rfl
  rw [hc] at hl
  obtain ⟨a, b, c, rfl⟩ := list3 hl
  obtain ⟨_, h0⟩ := hf 0 _ rfl cell9 a rfl
  obtain ⟨_, h1⟩ := hf 1 _ rfl cell3 b rfl
  obtain ⟨_, h2⟩ := hf 2 _ rfl cell3 c rfl
  obtain ⟨s, rfl⟩ := str_in h0
  obtain ⟨k, rfl, r1⟩ := int_in Try.underlying3 h1
  obtain ⟨k2, rfl, r2⟩ := int_in Try.underlying3 h2
  exact ⟨(s, k, k2), rfl, r1, r2⟩
def rO (o : O6) : Prop := rI o.k ∧ rI o.lo ∧ rI o.at_ ∧ rI o.a ∧ rI o.b
theorem op_in (h : DataW.trod enc Try.prog w 0 (fun _ => true) true n 196 cs = some y) : ∃ x : O6, cs = opV x ∧ rO x := by
  obtain ⟨hl, m, hf⟩ := fld_in Try.underlying196 h
  have hc : Try.prog.cellsOf 196 = 6 := by kernel_rfl
  rw [hc] at hl
  obtain ⟨a, b, c, d, e, f, rfl⟩ := list6 hl
  obtain ⟨_, h0⟩ := hf 0 _ rfl cell9 a rfl
  obtain ⟨_, h1⟩ := hf 1 _ rfl cell3 b rfl
  obtain ⟨_, h2⟩ := hf 2 _ rfl cell3 c rfl
  obtain ⟨_, h3⟩ := hf 3 _ rfl cell3 d rfl
  obtain ⟨_, h4⟩ := hf 4 _ rfl cell2 e rfl
  obtain ⟨_, h5⟩ := hf 5 _ rfl cell2 f rfl
  obtain ⟨s, rfl⟩ := str_in h0
  obtain ⟨k1, rfl, r1⟩ := int_in Try.underlying3 h1
  obtain ⟨k2, rfl, r2⟩ := int_in Try.underlying3 h2
  obtain ⟨k3, rfl, r3⟩ := int_in Try.underlying3 h3
  obtain ⟨k4, rfl, r4⟩ := int_in Try.underlying2 h4
  obtain ⟨k5, rfl, r5⟩ := int_in Try.underlying2 h5
  exact ⟨⟨s, k1, k2, k3, k4, k5⟩, rfl, r1, r2, r3, r4, r5⟩
theorem ch_in (h : DataW.trod enc Try.prog w 0 (fun _ => true) true n 201 cs = some y) : ∃ x : Ch, cs = chV x ∧ rI x.1 ∧ rI x.2 := by
  obtain ⟨hl, m, hf⟩ := fld_in Try.underlying201 h
  have hc : Try.prog.cellsOf 201 = 2 := by kernel_rfl
  rw [hc] at hl
  obtain ⟨a, b, rfl⟩ := list2 hl
  obtain ⟨_, h0⟩ := hf 0 _ rfl cell3 a rfl
  obtain ⟨_, h1⟩ := hf 1 _ rfl cell3 b rfl
  obtain ⟨k, rfl, r0⟩ := int_in Try.underlying3 h0
  obtain ⟨k2, rfl, r1⟩ := int_in Try.underlying3 h1
  exact ⟨(k, k2), rfl, r0, r1⟩
end
/-- A graph that comes in. -/
structure GrIn (W : World) (g : Gr) (v : Value) : Prop where
  val : ∃ s0 s1 s2 s3, v = .agg #[s0, s1, s2, s3] ∧ Rep W E0 (.lst 2 (g.cl.map clA)) s0 E0 ∧ Rep W E0 (.lst 3 (g.lo.map loA)) s1 E0 ∧ Rep W E0 (.lst 6 (g.op.map opA)) s2 E0 ∧ Rep W E0 (.lst 2 (g.ch.map chA)) s3 E0
  cl : ∀ x ∈ g.cl, rI x.2
  lo : ∀ x ∈ g.lo, rI x.2.1 ∧ rI x.2.2
  op : ∀ x ∈ g.op, rO x
  ch : ∀ x ∈ g.ch, rI x.1 ∧ rI x.2
theorem GrIn.sv {W : World} {g : Gr} {v : Value} (h : GrIn W g v) (env : Nat → RLoc) (rt : Al) : SV W E0 env rt (gA g) v := by
  obtain ⟨s0, s1, s2, s3, rfl, h0, h1, h2, h3⟩ := h.val
  refine ⟨_, rfl, rfl, fun i c u hc hu => ?_⟩
  match i with
  | 0 => simp at hc hu; subst hc hu; exact LR.of_rep h0
  | 1 => simp at hc hu; subst hc hu; exact LR.of_rep h1
  | 2 => simp at hc hu; subst hc hu; exact LR.of_rep h2
  | 3 => simp at hc hu; subst hc hu; exact LR.of_rep h3
  | i + 4 => simp at hc
theorem graph_in {H : Type} {enc : TypeId × Value → H} {W : World} {base : Nat} {v : Value} {d : DataW H} {p : List MemPlace} (hv : Value.okWide Try.prog W .any base 75 v) (h : DataW.Trod enc Try.prog W 0 (fun _ => true) true 75 v d p) : ∃ g, GrIn W g v := by
  simp only [Value.okWide, Try.underlying75] at hv
  obtain ⟨cs, rfl, hsz, ts, hts, _, hcell⟩ := hv
  have ht : Try.prog.cellTypes Try.prog.depth 75 = some [70, 71, 72, 73] := by kernel_rfl
  rw [ht] at hts
  obtain rfl := Option.some.inj hts
  have hc : Try.prog.cellsOf 75 = 4 := by kernel_rfl
  rw [hc] at hsz
  obtain ⟨a0, a1, a2, a3, rfl⟩ : ∃ a0 a1 a2 a3, cs = #[a0, a1, a2, a3] := by
    have h1 : cs.toList.length = 4 := by simpa using hsz
    match hcs : cs.toList, h1 with
    | [a0, a1, a2, a3], _ => exact ⟨a0, a1, a2, a3, by rw [← Array.toArray_toList (xs := cs), hcs]⟩
  obtain ⟨fuel, hf⟩ := h
  simp only [Value.cells] at hf
  obtain ⟨_, m, hfl⟩ := fld_in Try.underlying75 hf
  have c70 : Try.prog.cellsOf 70 = 1 := by kernel_rfl
  have c71 : Try.prog.cellsOf 71 = 1 := by kernel_rfl
  have c72 : Try.prog.cellsOf 72 = 1 := by kernel_rfl
  have c73 : Try.prog.cellsOf 73 = 1 := by kernel_rfl
  obtain ⟨_, g0⟩ := hfl 0 _ rfl c70 a0 rfl
  obtain ⟨_, g1⟩ := hfl 1 _ rfl c71 a1 rfl
  obtain ⟨_, g2⟩ := hfl 2 _ rfl c72 a2 rfl
  obtain ⟨_, g3⟩ := hfl 3 _ rfl c73 a3 rfl
  obtain ⟨u0, e0, k0⟩ := hcell 0 a0 rfl
  obtain ⟨u1, e1, k1⟩ := hcell 1 a1 rfl
  obtain ⟨u2, e2, k2⟩ := hcell 2 a2 rfl
  obtain ⟨u3, e3, k3⟩ := hcell 3 a3 rfl
  simp at e0 e1 e2 e3
  subst e0 e1 e2 e3
  obtain ⟨l0, o0, r0⟩ := lists_in clA clV (fun _ => rfl) (fun x v hv => by simp [clV] at hv; rcases hv with rfl | rfl <;> rfl) (fun x => rI x.2) (by decide)
    (slice_in (es := 2) Try.underlying70 (by kernel_rfl) k0 g0 (fun cs => ∃ x : Cl, cs = clV x ∧ rI x.2) (fun n cs y hy => cl_in hy))
  obtain ⟨l1, o1, r1⟩ := lists_in loA loV (fun _ => rfl) (fun x v hv => by simp [loV] at hv; rcases hv with rfl | rfl | rfl <;> rfl) (fun x => rI x.2.1 ∧ rI x.2.2) (by decide)
    (slice_in (es := 3) Try.underlying71 (by kernel_rfl) k1 g1 (fun cs => ∃ x : Lo, cs = loV x ∧ rI x.2.1 ∧ rI x.2.2) (fun n cs y hy => lo_in hy))
  obtain ⟨l2, o2, r2⟩ := lists_in opA opV (fun _ => rfl) (fun x v hv => by simp [opV] at hv; rcases hv with rfl | rfl | rfl | rfl | rfl | rfl <;> rfl) rO (by decide)
    (slice_in (es := 6) Try.underlying72 (by kernel_rfl) k2 g2 (fun cs => ∃ x : O6, cs = opV x ∧ rO x) (fun n cs y hy => op_in hy))
  obtain ⟨l3, o3, r3⟩ := lists_in chA chV (fun _ => rfl) (fun x v hv => by simp [chV] at hv; rcases hv with rfl | rfl <;> rfl) (fun x => rI x.1 ∧ rI x.2) (by decide)
    (slice_in (es := 2) Try.underlying73 (by kernel_rfl) k3 g3 (fun cs => ∃ x : Ch, cs = chV x ∧ rI x.1 ∧ rI x.2) (fun n cs y hy => ch_in hy))
  exact ⟨⟨l0, l1, l2, l3⟩, ⟨⟨_, _, _, _, rfl, r0, r1, r2, r3⟩, o0, o1, o2, o3⟩⟩
end Go.Proofs.Ythlehngbadianaa.Ow
set_option maxRecDepth 100000
namespace Go.Proofs.Ythlehngbadianaa.Ow
open Go Go.RowKit Go.Proofs
/-- A slice that comes in, wherever it lies: none, or elements in memory. -/
theorem slice_in2 {H : Type} {enc : TypeId × Value → H} {P : Program} {w : World} {t e : TypeId} {es m : Nat} {v : Value} {x : DataW H × List MemPlace} (ht : P.underlying t = some (.slice e)) (hc : P.cellsOf e = es) (hes : 0 < es)
    (hf : DataW.trod enc P w 0 (fun _ => true) true m t [v] = some x) (T : List Value → Prop) (hT : ∀ n cs y, DataW.trod enc P w 0 (fun _ => true) true n e cs = some y → T cs) :
    (∃ ad, v = .slice ad 0 0) ∨ ∃ (B o cap : Nat) (css : List (List Value)), v = .slice (some ⟨B, o, none⟩) css.length cap ∧ css.length ≤ cap ∧ (∀ cs ∈ css, cs.length = es ∧ T cs) ∧
      (∀ (i : Nat) (cs : List Value), css[i]? = some cs → ∀ (j : Nat) (u : Value), cs[j]? = some u → w.cell? ⟨B, o + i * es + j, none⟩ = some u) := by
  rcases DataW.trod_slice ht hf with ⟨h0, _⟩ | ⟨ad, len, cap, elems, rest, n, _, hcs, _, hb, hl, hm, hlen, hel, hsp, _⟩
  · left
    exact ⟨none, by simpa using h0⟩
  simp only [List.cons.injEq, and_true] at hcs
  subst hcs
  obtain ⟨h1, h2⟩ := hsp rfl
  rw [hc] at hel h2
  by_cases h0 : cap = 0
  · left
    obtain rfl : len = 0 := by omega
    subst h0
    exact ⟨_, rfl⟩
  right
  have cellsAt0 : ∀ (a : Addr) cs, w.cells? 0 a es = some cs → cs.length = es ∧ ∀ (j : Nat) (u : Value), cs[j]? = some u → w.cell? (a.add j) = some u := by
    intro a cs h
    unfold World.cells? at h
    rw [if_pos (Nat.zero_le _)] at h
    obtain ⟨h1, h2⟩ := mapM_range_get h
    refine ⟨h1, fun j u hj => ?_⟩
    have := h2 j (by rw [← h1]; exact (List.getElem?_eq_some_iff.1 hj).1)
    rw [hj] at this
    exact this
  have hspot : ad.spot = none := by
    have : ∃ cs, w.cells? 0 ad es = some cs := by
      by_cases hl0 : 0 < len
      · have h3 := hel 0 hl0
        rw [List.getElem?_eq_getElem (by omega)] at h3
        obtain ⟨cs, h4, _⟩ := Option.bind_eq_some_iff.1 h3
        exact ⟨cs, by simpa [Addr.add] using h4⟩
      · obtain rfl : len = 0 := by omega
        have h3 := h2 0 (by omega)
        rw [List.getElem?_eq_getElem (by omega)] at h3
        obtain ⟨cs, h4, _⟩ := Option.bind_eq_some_iff.1 h3
        exact ⟨cs, by simpa [Addr.add] using h4⟩
    obtain ⟨cs, h4⟩ := this
    obtain ⟨h5, h6⟩ := cellsAt0 _ _ h4
    have h7 := h6 0 _ (List.getElem?_eq_getElem (by omega))
    simp only [Addr.add, if_true] at h7
    unfold World.cell? at h7
    split at h7
    · split at h7
      · cases h7
      · rename_i h8
        cases hs : ad.spot with
        | none => rfl
        | some k => simp [hs] at h8
    · cases h7
  obtain ⟨B, o, sp⟩ := ad
  simp only at hspot
  subst hspot
  have each : ∀ i, i < len → ∃ cs y, w.cells? 0 (Addr.add ⟨B, o, none⟩ (i * es)) es = some cs ∧ DataW.trod enc P w 0 (fun _ => true) true n e cs = some y := by
    intro i hi
    have h1 := hel i hi
    rw [List.getElem?_eq_getElem (by omega)] at h1
    obtain ⟨cs, h2, h3⟩ := Option.bind_eq_some_iff.1 h1
    exact ⟨cs, _, h2, h3⟩
  have key : ∀ m, m ≤ len → ∃ css : List (List Value), css.length = m ∧ ∀ i cs, css[i]? = some cs → cs.length = es ∧ T cs ∧ ∀ (j : Nat) (u : Value), cs[j]? = some u → w.cell? ⟨B, o + i * es + j, none⟩ = some u := by
    intro m
    induction m with
    | zero => intro _; exact ⟨[], rfl, by simp⟩
    | succ m ih =>
      intro hm
      obtain ⟨css, h1, h2⟩ := ih (by omega)
      obtain ⟨cs, y, h3, h4⟩ := each m (by omega)
      obtain ⟨h5, h6⟩ := cellsAt0 _ cs h3
      refine ⟨css ++ [cs], by simp [h1], ?_⟩
      intro i cs' hi
      by_cases hlt : i < css.length
      · rw [List.getElem?_append_left hlt] at hi; exact h2 i cs' hi
      · rw [List.getElem?_append_right (by omega)] at hi
        have : i = m := by
          have := (List.getElem?_eq_some_iff.1 hi).1
          simp at this; omega
        subst this
        simp [h1] at hi
        subst hi
        refine ⟨h5, hT _ _ _ h4, fun j u hj => ?_⟩
        have := h6 j u hj
        rw [add_plain', add_plain'] at this
        exact this
  obtain ⟨css, hcl, hce⟩ := key len (Nat.le_refl _)
  subst hcl
  refine ⟨B, o, cap, css, rfl, hl, ?_, fun i cs hi j u hj => (hce i cs hi).2.2 j u hj⟩
  intro cs hcs
  obtain ⟨i, hi⟩ := List.getElem?_of_mem hcs
  exact ⟨(hce i cs hi).1, (hce i cs hi).2.1⟩
/-- What an element's cells are worth. -/
def CellsOf (w : World) (x : AV) (cs : List Value) : Prop := x.cells.length = cs.length ∧ ∀ (j : Nat) c u, x.cells[j]? = some c → cs[j]? = some u → Rep w E0 c u E0
theorem lists_in2 {α : Type} (f : α → AV) {es : Nat} (hes : 0 < es) {W : World} {v : Value}
    (h : (∃ ad, v = .slice ad 0 0) ∨ ∃ (B o cap : Nat) (css : List (List Value)), v = .slice (some ⟨B, o, none⟩) css.length cap ∧ css.length ≤ cap ∧ (∀ cs ∈ css, cs.length = es ∧ ∃ x, CellsOf W (f x) cs) ∧
      (∀ (i : Nat) (cs : List Value), css[i]? = some cs → ∀ (j : Nat) (u : Value), cs[j]? = some u → W.cell? ⟨B, o + i * es + j, none⟩ = some u)) :
    ∃ l : List α, Rep W E0 (.lst es (l.map f)) v E0 := by
  rcases h with ⟨ad, rfl⟩ | ⟨B, o, cap, css, rfl, h1, h3, h4⟩
  · exact ⟨[], .lstN fun _ _ h => h⟩
  · have key : ∀ css : List (List Value), (∀ cs ∈ css, cs.length = es ∧ ∃ x, CellsOf W (f x) cs) → ∃ l : List α, l.length = css.length ∧ ∀ (i : Nat) x cs, l[i]? = some x → css[i]? = some cs → CellsOf W (f x) cs := by
      intro css
      induction css with
      | nil => intro _; exact ⟨[], rfl, by simp⟩
      | cons cs css ih =>
        intro h3
        obtain ⟨_, x, hx⟩ := h3 _ (List.mem_cons_self ..)
        obtain ⟨l, hl, hc⟩ := ih fun c hc => h3 c (List.mem_cons_of_mem _ hc)
        refine ⟨x :: l, by simp [hl], fun i y cs' hy hcs => ?_⟩
        cases i with
        | zero => simp at hy hcs; subst hy hcs; exact hx
        | succ i => exact hc i y cs' (by simpa using hy) (by simpa using hcs)
    obtain ⟨l, hl, hc⟩ := key css h3
    refine ⟨l, ?_⟩
    have hlm : (l.map f).length = css.length := by rw [List.length_map, hl]
    rw [← hlm]
    have hget : ∀ (i : Nat) x, (l.map f)[i]? = some x → ∃ cs, css[i]? = some cs ∧ cs.length = es ∧ CellsOf W x cs := by
      intro i x hi
      have hlt : i < css.length := by rw [← hlm]; exact (List.getElem?_eq_some_iff.1 hi).1
      have hg := List.getElem?_eq_getElem hlt
      rw [List.getElem?_map, Option.map_eq_some_iff] at hi
      obtain ⟨y, hy, rfl⟩ := hi
      exact ⟨_, hg, (h3 _ (List.mem_of_getElem? hg)).1, hc i y _ hy hg⟩
    have hcell : ∀ (i : Nat) x (j : Nat) c, (l.map f)[i]? = some x → x.cells[j]? = some c → ∃ u, W.cell? ⟨B, o + i * es + j, none⟩ = some u ∧ Rep W E0 c u E0 := by
      intro i x j c hi hj
      obtain ⟨cs, k1, k2, k3, k4⟩ := hget i x hi
      have hlt : j < cs.length := by rw [← k3]; exact (List.getElem?_eq_some_iff.1 hj).1
      have hg := List.getElem?_eq_getElem hlt
      exact ⟨_, h4 i cs k1 j _ hg, k4 j c _ hj hg⟩
    refine .lst (fun i j => (W.cell? ⟨B, o + i * es + j, none⟩).getD undef) hes (by omega) ?_ ?_ (fun _ _ _ _ h => h) ?_ (fun _ _ h => h)
    · intro i x hi
      obtain ⟨cs, k1, k2, k3, k4⟩ := hget i x hi
      rw [k3, k2]
    · intro i x j c hi hj
      obtain ⟨u, h5, _⟩ := hcell i x j c hi hj
      simp only [h5, Option.getD_some]
    · intro i x j c hi hj
      obtain ⟨u, h5, h6⟩ := hcell i x j c hi hj
      simp only [h5, Option.getD_some]
      exact h6
section
variable {H : Type} {enc : TypeId × Value → H} {w : World} {n : Nat} {cs : List Value} {v : Value} {y : DataW H × List MemPlace}
theorem ints_in (h : DataW.trod enc Try.prog w 0 (fun _ => true) true n 98 [v] = some y) : ∃ l : List Int, Rep w E0 (.lst 1 (l.map i64A)) v E0 :=
  lists_in2 (es := 1) i64A (by decide) (slice_in2 Try.underlying98 (by kernel_rfl) (by decide) h (fun cs => ∃ x, CellsOf w (i64A x) cs) fun n cs y hy => by
    obtain ⟨k, rfl, _⟩ := DataW.trod_int Try.underlying3 hy
    refine ⟨k, rfl, fun j c u hc hu => ?_⟩
    cases j with
    | zero => simp [i64A, AV.cells] at hc hu; subst hc hu; exact .v rfl fun _ _ h => h
    | succ j => simp at hu)
theorem strs_in (h : DataW.trod enc Try.prog w 0 (fun _ => true) true n 43 [v] = some y) : ∃ l : List ByteArray, Rep w E0 (.lst 1 (l.map nmA)) v E0 :=
  lists_in2 (es := 1) nmA (by decide) (slice_in2 Try.underlying43 (by kernel_rfl) (by decide) h (fun cs => ∃ x, CellsOf w (nmA x) cs) fun n cs y hy => by
    obtain ⟨k, rfl, _⟩ := DataW.trod_string Try.underlying9 hy
    refine ⟨k, rfl, fun j c u hc hu => ?_⟩
    cases j with
    | zero => simp [nmA, AV.cells] at hc hu; subst hc hu; exact .v rfl fun _ _ h => h
    | succ j => simp at hu)
theorem rt_in (h : DataW.trod enc Try.prog w 0 (fun _ => true) true n 225 cs = some y) : ∃ r : Rt, CellsOf w (rtA r) cs := by
  obtain ⟨hl, m, hf⟩ := fld_in Try.underlying225 h
  have hc : Try.prog.cellsOf 225 = 3 := by kernel_rfl
  rw [hc] at hl
  obtain ⟨a, b, c, rfl⟩ := list3 hl
  have cell98 : Try.prog.cellsOf 98 = 1 := by kernel_rfl
  obtain ⟨_, h0⟩ := hf 0 _ rfl cell3 a rfl
  obtain ⟨_, h1⟩ := hf 1 _ rfl cell3 b rfl
  obtain ⟨_, h2⟩ := hf 2 _ rfl cell98 c rfl
  obtain ⟨k, rfl, _⟩ := int_in Try.underlying3 h0
  obtain ⟨k2, rfl, _⟩ := int_in Try.underlying3 h1
  obtain ⟨l, hl⟩ := ints_in h2
  refine ⟨⟨k, k2, l⟩, rfl, fun j c u hc hu => ?_⟩
  match j, hc, hu with
  | 0, hc, hu => simp [rtA, AV.cells] at hc hu; subst hc hu; exact .v rfl fun _ _ h => h
  | 1, hc, hu => simp [rtA, AV.cells] at hc hu; subst hc hu; exact .v rfl fun _ _ h => h
  | 2, hc, hu => simp [rtA, AV.cells] at hc hu; subst hc hu; exact hl
  | j + 3, hc, hu => simp at hu
end
/-- A plan that comes in. -/
structure PlIn (W : World) (p : Pn) (v : Value) : Prop where
  val : ∃ s0 s1, v = .agg #[s0, s1] ∧ Rep W E0 (.lst 1 (p.re.map nmA)) s0 E0 ∧ Rep W E0 (.lst 3 (p.rt.map rtA)) s1 E0
theorem PlIn.sv {W : World} {p : Pn} {v : Value} (h : PlIn W p v) (env : Nat → RLoc) (rt : Al) : SV W E0 env rt (plA p) v := by
  obtain ⟨s0, s1, rfl, h0, h1⟩ := h.val
  refine ⟨_, rfl, rfl, fun i c u hc hu => ?_⟩
  match i with
  | 0 => simp at hc hu; subst hc hu; exact LR.of_rep h0
  | 1 => simp at hc hu; subst hc hu; exact LR.of_rep h1
  | i + 2 => simp at hc
theorem plan_in {H : Type} {enc : TypeId × Value → H} {W : World} {base : Nat} {v : Value} {d : DataW H} {p : List MemPlace} (hv : Value.okWide Try.prog W .any base 121 v) (h : DataW.Trod enc Try.prog W 0 (fun _ => true) true 121 v d p) : ∃ q, PlIn W q v := by
  simp only [Value.okWide, Try.underlying121] at hv
  obtain ⟨cs, rfl, hsz, _⟩ := hv
  have hc : Try.prog.cellsOf 121 = 2 := by kernel_rfl
  rw [hc] at hsz
  obtain ⟨a0, a1, rfl⟩ : ∃ a0 a1, cs = #[a0, a1] := by
    have h1 : cs.toList.length = 2 := by simpa using hsz
    match hcs : cs.toList, h1 with
    | [a0, a1], _ => exact ⟨a0, a1, by rw [← Array.toArray_toList (xs := cs), hcs]⟩
  obtain ⟨fuel, hf⟩ := h
  simp only [Value.cells] at hf
  obtain ⟨_, m, hfl⟩ := fld_in Try.underlying121 hf
  have c43 : Try.prog.cellsOf 43 = 1 := by kernel_rfl
  have c119 : Try.prog.cellsOf 119 = 1 := by kernel_rfl
  obtain ⟨_, g0⟩ := hfl 0 _ rfl c43 a0 rfl
  obtain ⟨_, g1⟩ := hfl 1 _ rfl c119 a1 rfl
  obtain ⟨l0, r0⟩ := strs_in g0
  obtain ⟨l1, r1⟩ := lists_in2 (es := 3) rtA (by decide) (slice_in2 Try.underlying119 (by kernel_rfl) (by decide) g1 (fun cs => ∃ x, CellsOf W (rtA x) cs) fun n cs y hy => rt_in hy)
  exact ⟨⟨l0, l1⟩, ⟨_, _, rfl, r0, r1⟩⟩
end Go.Proofs.Ythlehngbadianaa.Ow
