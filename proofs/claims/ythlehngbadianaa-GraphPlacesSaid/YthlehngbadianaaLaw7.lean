/- Whatever graph, place and time go in, the law GraphPlaces returns true, and what came in reads as it did: the scope of the place, the path through the operator and whether the time fits are what the document's own answer says. There are no conditions. -/
import Derived.Test.YthlehngbadianaaTge
import Derived.Test.YthlehngbadianaaTm4
import Derived.Test.YthlehngbadianaaRows
set_option linter.unusedVariables false
set_option linter.unusedSimpArgs false
set_option linter.unnecessarySimpa false
set_option maxRecDepth 100000
namespace Go.Proofs.Ythlehngbadianaa.Ow
open Go Go.RowKit Go.Proofs
theorem graphPlaces_walk (W : World) (g : Gr) (v : Value) (loc ep d x y z : Int) (hg : GrIn W g v) (hx : 0 ≤ x) (hy : 0 ≤ y) (hz : 0 ≤ z) :
    Calls Try.prog 7 #[v, .int .i64 loc, .agg #[.int .u32 ep, .int .i64 d, .int .u32 x, .int .u32 y, .int .u32 z]] W fun e W' => e = .returned (.bool true) ∧ Below W.heap.size W W' := by
  refine entry_below (args := [gA g, i64A loc, tmI ep d x y z]) rfl ?_ (fun {Q} hq => c7 g loc ep d x y z hx hy hz hq)
  intro i a hi
  match i, hi with
  | 0, hi => simp at hi; subst hi; exact ⟨_, rfl, hg.sv⟩
  | 1, hi => simp at hi; subst hi; exact ⟨_, rfl, fun env rt => Rep.v rfl fun _ _ h => h⟩
  | 2, hi =>
    simp at hi; subst hi
    exact ⟨_, rfl, fun env rt => agg_sv (cs := [.int .u32 ep, .int .i64 d, .int .u32 x, .int .u32 y, .int .u32 z]) (by simp [Value.oneCell']) env rt⟩
  | i + 3, hi => simp at hi
theorem time_in {W : World} {base : Nat} {v : Value} (hv : Value.okWide Try.prog W .any base 50 v) :
    ∃ ep d x y z : Int, v = .agg #[.int .u32 ep, .int .i64 d, .int .u32 x, .int .u32 y, .int .u32 z] ∧ 0 ≤ x ∧ 0 ≤ y ∧ 0 ≤ z := by
  simp only [Value.okWide, Try.underlying50] at hv
  obtain ⟨cs, rfl, hsz, ts, hts, _, hcell⟩ := hv
  have ht5 : Try.prog.cellTypes Try.prog.depth 50 = some [47, 3, 47, 47, 47] := by kernel_rfl
  rw [ht5] at hts
  obtain rfl := Option.some.inj hts
  have hc50 : Try.prog.cellsOf 50 = 5 := by kernel_rfl
  rw [hc50] at hsz
  obtain ⟨a0, a1, a2, a3, a4, rfl⟩ : ∃ a0 a1 a2 a3 a4, cs = #[a0, a1, a2, a3, a4] := by
    have h1 : cs.toList.length = 5 := by simpa using hsz
    match hcs : cs.toList, h1 with
    | [a0, a1, a2, a3, a4], _ => exact ⟨a0, a1, a2, a3, a4, by rw [← Array.toArray_toList (xs := cs), hcs]⟩
  obtain ⟨u0, e0, k0⟩ := hcell 0 a0 rfl
  obtain ⟨u1, e1, k1⟩ := hcell 1 a1 rfl
  obtain ⟨u2, e2, k2⟩ := hcell 2 a2 rfl
  obtain ⟨u3, e3, k3⟩ := hcell 3 a3 rfl
  obtain ⟨u4, e4, k4⟩ := hcell 4 a4 rfl
  simp at e0 e1 e2 e3 e4
  subst e0 e1 e2 e3 e4
  have hint : ∀ (t : TypeId) (k : IntKind) (a : Value), Try.prog.underlying t = some (.int k) → Cell.okWide Try.prog W .any base t a → ∃ n, a = .int k n ∧ k.has n := by
    intro t k a ht ha
    simp only [Cell.okWide, ht, Cell.ok] at ha
    cases a <;> simp at ha
    exact ⟨_, by rw [ha.1], ha.2⟩
  obtain ⟨n0, rfl, r0⟩ := hint _ _ _ Try.underlying47 k0
  obtain ⟨n1, rfl, r1⟩ := hint _ _ _ Try.underlying3 k1
  obtain ⟨n2, rfl, r2⟩ := hint _ _ _ Try.underlying47 k2
  obtain ⟨n3, rfl, r3⟩ := hint _ _ _ Try.underlying47 k3
  obtain ⟨n4, rfl, r4⟩ := hint _ _ _ Try.underlying47 k4
  have mn : IntKind.u32.min = 0 := rfl
  have q2 := r2.1
  have q3 := r3.1
  have q4 := r4.1
  rw [mn] at q2 q3 q4
  exact ⟨n0, n1, n2, n3, n4, rfl, q2, q3, q4⟩
end Go.Proofs.Ythlehngbadianaa.Ow
namespace Go.Proofs.Ythlehngbadianaa
open Go.ChangeShapes Go.WideShapes Go.ChangeAt Go.RowKit
theorem own : ownKnob Try.prog.godebug = none := by kernel_rfl
theorem laidOut : laidOutB Try.prog = true := by kernel_rfl
theorem graphPlaces_lifted (os : Os) (started : os.Started) (H : Type) (enc : TypeId × Value → H) :
    ReturnsInHanded {} Try.checked os 7 .any (Rows.graphPlacesSpec.pre6 enc Try.prog Try.f7 Rows.graphPlacesRow.domain false) (Rows.graphPlacesSpec.post enc Try.prog Try.f7 false true false false) := by
  refine returnsInHanded_of_change (C := Try.checked) own started (by kernel_rfl) Try.func7
    (ChangeSpec.witness6 (enc := enc) (C := Try.checked) false ⟨#[], #[.agg #[.slice none 0 0, .slice none 0 0, .slice none 0 0, .slice none 0 0], .int .i64 0, .agg #[.int .u32 0, .int .i64 0, .int .u32 0, .int .u32 0, .int .u32 0]], []⟩ 8 (by kernel_rfl) (by kernel_rfl) (by kernel_rfl) (by kernel_rfl)) ?_
  intro W base args ds gs before hval0 hW hcnd _
  have hval : ∀ (j : Nat) t v, Try.f7.params[j]? = some t → args[j]? = some v → Value.okWide Try.prog W .any base t v := hval0
  have hW' := hW
  obtain ⟨p, q, hA0, hV, rfl, hfz, hnd⟩ := hW
  have hA : DataW.TrodAll enc Try.prog W 0 (fun _ => true) true Try.f7.params.toList args.toList ds p := hA0
  rw [Try.params7] at hA hval
  obtain ⟨v0, vs0, d0, ds0, p0, q0, hargs, rfl, rfl, h0, r0⟩ := trodAll_cons hA
  obtain ⟨v1, vs1, d1, ds1, p1, q1, rfl, rfl, rfl, h1, r1⟩ := trodAll_cons r0
  obtain ⟨v2, vs2, d2, ds2, p2, q2, rfl, rfl, rfl, h2, r2⟩ := trodAll_cons r1
  obtain ⟨rfl, rfl, rfl⟩ := trodAll_nil r2
  obtain rfl : args = #[v0, v1, v2] := by cases args; simp_all
  obtain ⟨rfl, rfl⟩ := trodVars_none hV
  obtain ⟨n1, rfl, rfl, rfl, w1⟩ := open_int Try.underlying3 (hval 1 3 v1 rfl rfl) h1
  obtain ⟨ep, d, x, y, z, rfl, hx, hy, hz⟩ := Ow.time_in (hval 2 50 v2 rfl rfl)
  have k0 := h0
  have lt0 : ∀ x ∈ p0, x.block < W.heap.size := by obtain ⟨m, hm⟩ := k0; exact DataW.trod_lt m _ _ _ hm
  have k2 := h2
  have lt2 : ∀ x ∈ p2, x.block < W.heap.size := by obtain ⟨m, hm⟩ := k2; exact DataW.trod_lt m _ _ _ hm
  obtain ⟨g, hg⟩ := Ow.graph_in (hval 0 75 v0 rfl rfl) h0
  clear hA0 hval0
  refine (Ow.graphPlaces_walk W g v0 n1 ep d x y z hg hx hy hz).mono fun e W' ⟨he, bel⟩ => ?_
  subst he
  exact ⟨_, rfl, _, _, _, [], _, [], hW', trodAll_mk1 (shut_bool Try.underlying4 _), (trodAll_cons_mk (Below.trod laidOut (by kernel_rfl) (of_decide_eq_true (by kernel_rfl)) k0 bel lt0) (trodAll_cons_mk (shut_int Try.underlying3 w1) (trodAll_cons_mk (Below.trod laidOut (by kernel_rfl) (of_decide_eq_true (by kernel_rfl)) k2 bel lt2) trodAll_mk0))), rfl, bel.frame _, fun h => by cases h⟩
theorem graphPlaces_holds : Rows.GraphPlacesSaid :=
  OpenClaim.holds_of_wide 7 Try.f7 rfl rfl rfl rfl rfl rfl rfl ⟨rfl, rfl, rfl, rfl, rfl⟩ rfl rfl rfl rfl rfl (by kernel_rfl) Try.func7 (by kernel_rfl)
    (of_decide_eq_true (by kernel_rfl)) (by unfold Func.isWrapper; first | (rw [if_pos (by decide +kernel)]; kernel_rfl) | (rw [if_neg (by decide +kernel)]; exact ⟨rfl, rfl⟩))
    (fun os started H enc _ => graphPlaces_lifted os started H enc)
#print axioms graphPlaces_holds
end Go.Proofs.Ythlehngbadianaa
