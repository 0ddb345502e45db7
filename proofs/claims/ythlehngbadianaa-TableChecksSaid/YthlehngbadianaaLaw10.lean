/- Whatever plan, graph and three numbers go in, the law TableChecks returns true, and what came in reads as it did: what is wrong with the plan, its text, how many ends there are, the way between any two clusters, and the ends behind and ahead of any end on it are what the document's own answer says. There are no conditions. -/
import Derived.Test.YthlehngbadianaaTgete
import Derived.Test.YthlehngbadianaaTv5
import Derived.Test.YthlehngbadianaaTw10
import Derived.Test.YthlehngbadianaaRows
set_option linter.unusedVariables false
set_option linter.unusedSimpArgs false
set_option linter.unnecessarySimpa false
set_option maxRecDepth 100000
namespace Go.Proofs.Ythlehngbadianaa.Ow
open Go Go.RowKit Go.Proofs
theorem tableChecks_walk (W : World) (p : Pn) (g : Gr) (u v : Value) (f t a : Int) (hp : PlIn W p u) (hg : GrIn W g v) :
    Calls Try.prog 10 #[u, v, .int .i64 f, .int .i64 t, .int .i64 a] W fun e W' => e = .returned (.bool true) ∧ Below W.heap.size W W' := by
  refine entry_below (args := [plA p, gA g, i64A f, i64A t, i64A a]) rfl ?_ (fun {Q} hq => c10 p g f t a hq)
  intro i x hi
  match i, hi with
  | 0, hi => simp at hi; subst hi; exact ⟨_, rfl, hp.sv⟩
  | 1, hi => simp at hi; subst hi; exact ⟨_, rfl, hg.sv⟩
  | 2, hi => simp at hi; subst hi; exact ⟨_, rfl, fun env rt => Rep.v rfl fun _ _ h => h⟩
  | 3, hi => simp at hi; subst hi; exact ⟨_, rfl, fun env rt => Rep.v rfl fun _ _ h => h⟩
  | 4, hi => simp at hi; subst hi; exact ⟨_, rfl, fun env rt => Rep.v rfl fun _ _ h => h⟩
  | i + 5, hi => simp at hi
end Go.Proofs.Ythlehngbadianaa.Ow
namespace Go.Proofs.Ythlehngbadianaa
open Go.ChangeShapes Go.WideShapes Go.ChangeAt Go.RowKit
theorem own : ownKnob Try.prog.godebug = none := by kernel_rfl
theorem laidOut : laidOutB Try.prog = true := by kernel_rfl
theorem tableChecks_lifted (os : Os) (started : os.Started) (H : Type) (enc : TypeId × Value → H) :
    ReturnsInHanded {} Try.checked os 10 .any (Rows.tableChecksSpec.pre6 enc Try.prog Try.f10 Rows.tableChecksRow.domain false) (Rows.tableChecksSpec.post enc Try.prog Try.f10 false true false false) := by
  refine returnsInHanded_of_change (C := Try.checked) own started (by kernel_rfl) Try.func10
    (ChangeSpec.witness6 (enc := enc) (C := Try.checked) false ⟨#[], #[.agg #[.slice none 0 0, .slice none 0 0], .agg #[.slice none 0 0, .slice none 0 0, .slice none 0 0, .slice none 0 0], .int .i64 0, .int .i64 0, .int .i64 0], []⟩ 8 (by kernel_rfl) (by kernel_rfl) (by kernel_rfl) (by kernel_rfl)) ?_
  intro W base args ds gs before hval0 hW hcnd _
  have hval : ∀ (j : Nat) t v, Try.f10.params[j]? = some t → args[j]? = some v → Value.okWide Try.prog W .any base t v := hval0
  have hW' := hW
  obtain ⟨p, q, hA0, hV, rfl, hfz, hnd⟩ := hW
  have hA : DataW.TrodAll enc Try.prog W 0 (fun _ => true) true Try.f10.params.toList args.toList ds p := hA0
  rw [Try.params10] at hA hval
  obtain ⟨v0, vs0, d0, ds0, p0, q0, hargs, rfl, rfl, h0, r0⟩ := trodAll_cons hA
  obtain ⟨v1, vs1, d1, ds1, p1, q1, rfl, rfl, rfl, h1, r1⟩ := trodAll_cons r0
  obtain ⟨v2, vs2, d2, ds2, p2, q2, rfl, rfl, rfl, h2, r2⟩ := trodAll_cons r1
  obtain ⟨v3, vs3, d3, ds3, p3, q3, rfl, rfl, rfl, h3, r3⟩ := trodAll_cons r2
  obtain ⟨v4, vs4, d4, ds4, p4, q4, rfl, rfl, rfl, h4, r4⟩ := trodAll_cons r3
  obtain ⟨rfl, rfl, rfl⟩ := trodAll_nil r4
  obtain rfl : args = #[v0, v1, v2, v3, v4] := by cases args; simp_all
  obtain ⟨rfl, rfl⟩ := trodVars_none hV
  obtain ⟨n2, rfl, rfl, rfl, w2⟩ := open_int Try.underlying3 (hval 2 3 v2 rfl rfl) h2
  obtain ⟨n3, rfl, rfl, rfl, w3⟩ := open_int Try.underlying3 (hval 3 3 v3 rfl rfl) h3
  obtain ⟨n4, rfl, rfl, rfl, w4⟩ := open_int Try.underlying3 (hval 4 3 v4 rfl rfl) h4
  have k0 := h0
  have k1 := h1
  have lt0 : ∀ x ∈ p0, x.block < W.heap.size := by obtain ⟨m, hm⟩ := k0; exact DataW.trod_lt m _ _ _ hm
  have lt1 : ∀ x ∈ p1, x.block < W.heap.size := by obtain ⟨m, hm⟩ := k1; exact DataW.trod_lt m _ _ _ hm
  obtain ⟨p, hp⟩ := Ow.plan_in (hval 0 121 v0 rfl rfl) h0
  obtain ⟨g, hg⟩ := Ow.graph_in (hval 1 75 v1 rfl rfl) h1
  clear hA0 hval0
  refine (Ow.tableChecks_walk W p g v0 v1 n2 n3 n4 hp hg).mono fun e W' ⟨he, bel⟩ => ?_
  subst he
  exact ⟨_, rfl, _, _, _, [], _, [], hW', trodAll_mk1 (shut_bool Try.underlying4 _), (trodAll_cons_mk (Below.trod laidOut (by kernel_rfl) (of_decide_eq_true (by kernel_rfl)) k0 bel lt0) (trodAll_cons_mk (Below.trod laidOut (by kernel_rfl) (of_decide_eq_true (by kernel_rfl)) k1 bel lt1) (trodAll_cons_mk (shut_int Try.underlying3 w2) (trodAll_cons_mk (shut_int Try.underlying3 w3) (trodAll_cons_mk (shut_int Try.underlying3 w4) trodAll_mk0))))), rfl, bel.frame _, fun h => by cases h⟩
theorem tableChecks_holds : Rows.TableChecksSaid :=
  OpenClaim.holds_of_wide 10 Try.f10 rfl rfl rfl rfl rfl rfl rfl ⟨rfl, rfl, rfl, rfl, rfl⟩ rfl rfl rfl rfl rfl (by kernel_rfl) Try.func10 tcAll
    (of_decide_eq_true (by kernel_rfl)) (by unfold Func.isWrapper; first | (rw [if_pos (by decide +kernel)]; kernel_rfl) | (rw [if_neg (by decide +kernel)]; exact ⟨rfl, rfl⟩))
    (fun os started H enc _ => tableChecks_lifted os started H enc)
#print axioms tableChecks_holds
end Go.Proofs.Ythlehngbadianaa
