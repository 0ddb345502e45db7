/- What the functions of the program do, each once: contracts of the logic (part n4). -/
import Derived.Test.YthlehngbadianaaDoorTd1g1
import Derived.Test.YthlehngbadianaaDoorOwWeakNil
import Derived.Test.YthlehngbadianaaDoorOwEntry
set_option linter.unusedVariables false
set_option linter.unusedSimpArgs false
set_option linter.unnecessarySimpa false
set_option maxRecDepth 100000
namespace Go.Proofs.YthlehngbadianaaDoor.Ow
open Go Go.RowKit Go.Proofs
/-- What is only read does not lean on what is owned. -/
theorem Rep.e0 {w : World} {F : Fp} {x : AV} {u : Value} {T : Fp} (h : Rep w F x u T) : Rep w E0 x u T := by
  induction h with
  | v h1 hT => exact .v h1 hT
  | junk h1 hT => exact .junk h1 hT
  | lstN hT => exact .lstN hT
  | lst u hes hcap hlen hc hf hr hT ih => exact .lst u hes hcap hlen hc (fun _ _ _ _ h => h) ih hT
  | fptr u hc hf hr hT ih => exact .fptr u hc (fun _ _ h => h) ih hT
  | ownN hes hT => exact .ownN hes hT
  | own u S hes hcap hb hlen hc hr hd ho hS hT ih => exact .own u S hes hcap hb hlen hc ih hd ho hS hT
  | obj u S hb hc hr hd ho hS hT ih => exact .obj u S hb hc ih hd ho hS hT
  | fn hl hr hT ih => exact .fn hl ih hT
  | ext h1 hI => exact .ext h1 fun w' F' k => hI w' F' ⟨let ⟨M, a, b, c⟩ := k.ex; ⟨M, a, fun b' a' h => (b b' a' h).elim, c⟩, fun b a h => (k.fr b a h).imp (fun h => h.elim) id⟩
/-- A graph's value in memory. -/
structure GrV (W : World) (g : Gr) (v : Value) : Prop where
  val : ∃ s0 s1 s2 s3, v = .agg #[s0, s1, s2, s3] ∧ Rep W E0 (.lst 2 (g.cl.map clA)) s0 E0 ∧ Rep W E0 (.lst 3 (g.lo.map loA)) s1 E0 ∧ Rep W E0 (.lst 6 (g.op.map opA)) s2 E0 ∧ Rep W E0 (.lst 2 (g.ch.map chA)) s3 E0
theorem GrV.sv {W : World} {g : Gr} {v : Value} (h : GrV W g v) (env : Nat → RLoc) (rt : Al) : SV W E0 env rt (gA g) v := by
  obtain ⟨s0, s1, s2, s3, rfl, h0, h1, h2, h3⟩ := h.val
  refine ⟨_, rfl, rfl, fun i c u hc hu => ?_⟩
  match i with
  | 0 => simp at hc hu; subst hc hu; exact LR.of_rep h0
  | 1 => simp at hc hu; subst hc hu; exact LR.of_rep h1
  | 2 => simp at hc hu; subst hc hu; exact LR.of_rep h2
  | 3 => simp at hc hu; subst hc hu; exact LR.of_rep h3
  | i + 4 => simp at hc
theorem GrV.of {W : World} {F : Fp} {env : Nat → RLoc} {rt : Al} {g : Gr} {v : Value} (h : SV W F env rt (gA g) v) : GrV W g v := by
  obtain ⟨us, rfl, hs, hc⟩ := h
  have hs4 : us.size = 4 := hs
  have h0 : Rep W F (.lst 2 (g.cl.map clA)) us[0] E0 := hc 0 _ us[0] rfl (by simp)
  have h1 : Rep W F (.lst 3 (g.lo.map loA)) us[1] E0 := hc 1 _ us[1] rfl (by simp)
  have h2 : Rep W F (.lst 6 (g.op.map opA)) us[2] E0 := hc 2 _ us[2] rfl (by simp)
  have h3 : Rep W F (.lst 2 (g.ch.map chA)) us[3] E0 := hc 3 _ us[3] rfl (by simp)
  refine ⟨us[0], us[1], us[2], us[3], ?_, h0.e0, h1.e0, h2.e0, h3.e0⟩
  congr 1
  apply Array.ext_getElem?
  intro i
  match i with
  | 0 => simp [hs4]
  | 1 => simp [hs4]
  | 2 => simp [hs4]
  | 3 => simp [hs4]
  | i + 4 => rw [Array.getElem?_eq_none (by omega), Array.getElem?_eq_none (by simp)]
theorem GrV.after {W W' : World} {g : Gr} {v : Value} (h : GrV W g v) (hb : Below W.heap.size W W') : GrV W' g v := by
  obtain ⟨s0, s1, s2, s3, rfl, h0, h1, h2, h3⟩ := h.val
  have hkp : Kp W E0 W' E0 E0 := ⟨⟨E0, Agree.below hb E0, fun _ _ h => h.elim, fun _ _ _ h => h⟩, fun _ _ h => .inl h⟩
  exact ⟨s0, s1, s2, s3, rfl, h0.keep hkp, h1.keep hkp, h2.keep hkp, h3.keep hkp⟩
theorem rep_v {w : World} {F : Fp} {x u : Value} {T : Fp} (h : Rep w F (.v x) u T) : u = x := by cases h; rfl
end Go.Proofs.YthlehngbadianaaDoor.Ow
