/- Whatever text and graph go in, the law TableParses returns true, and what came in reads as it did: the plan that the program reads off the text, and whether it reads one, are what the document's own answer says. Conditions: none on the input; the two package-level variables that the card lists (the tables acceptRanges and first of package unicode/utf8) are tied to the program's text by the card; the walk reads neither. -/
import Derived.Test.YthlehngbadianaaDoorTgete
import Derived.Test.YthlehngbadianaaDoorTw9
import Derived.Test.YthlehngbadianaaDoorRows
import Derived.Test.YthlehngbadianaaDoorCards
import Derived.Test.YthlehngbadianaaDoorTie
import Derived.ChangeMaps5
import Derived.ShutString
import Derived.LaidMore
import Derived.Lay
import Derived.Shelf.Lay
import Derived.SevenTiedAt
import Derived.Stop.Joined
set_option linter.unusedVariables false
set_option linter.unusedSimpArgs false
set_option linter.unnecessarySimpa false
set_option maxRecDepth 100000
namespace Go.Proofs.YthlehngbadianaaDoor.Ow
open Go Go.RowKit Go.Proofs
theorem tableParses_walk (W : World) (s : ByteArray) (g : Gr) (v : Value) (hg : GrIn W g v) :
    Calls Tryd.prog 4 #[.string s, v] W fun e W' => e = .returned (.bool true) ∧ Below W.heap.size W W' := by
  refine entry_below (args := [strV s.data.toList, gA g]) rfl ?_ (fun {Q} hq => c1001 s.data.toList g hq)
  intro i x hi
  match i, hi with
  | 0, hi => simp at hi; subst hi; exact ⟨_, rfl, fun env rt => Rep.v rfl fun _ _ h => h⟩
  | 1, hi => simp at hi; subst hi; exact ⟨_, rfl, hg.sv⟩
  | i + 2, hi => simp at hi
end Go.Proofs.YthlehngbadianaaDoor.Ow
namespace Go.Proofs.YthlehngbadianaaDoor
open Go.ChangeShapes Go.WideShapes Go.ChangeAt Go.RowKit
theorem own : ownKnob Tryd.prog.godebug = none := by kernel_rfl
theorem laidOut : laidOutB Tryd.prog = true := by kernel_rfl
theorem tableParses_lifted (os : Os) (started : os.Started) (H : Type) (enc : TypeId × Value → H) :
    ReturnsInHanded {} Tryd.checked os 4 .any (fun w args => (Rows.tableParsesSpec.pre enc Tryd.prog Tryd.f4 Rows.tableParsesRow.domain false w args ∧ laidMetH Tryd.prog Rows.tableParsesRow.laid w) ∧ sizedMet enc Tryd.prog Tryd.f4 (OpenSpec.ofChange Rows.tableParsesSpec) false w args)
      (Rows.tableParsesSpec.post enc Tryd.prog Tryd.f4 false true false false) := by
  refine returnsInHanded_of_change_and (C := Tryd.checked) (X := fun w _ => laidMetH Tryd.prog Rows.tableParsesRow.laid w) (fun _ _ _ hh h => h.of_heap hh) own started (by kernel_rfl) Tryd.func4
    (ChangeSpec.witness_shaped (enc := enc) (C := Tryd.checked) (os := os) (X := fun w _ => laidMetH Tryd.prog Rows.tableParsesRow.laid w) false (World.laidAll Tryd.prog os Rows.tableParsesRow.laid) #[.string ⟨#[]⟩, .agg #[.slice none 0 0, .slice none 0 0, .slice none 0 0, .slice none 0 0]] 8 (World.laidAll_os _ _ _)
      (World.shaped_of_ZipB (by kernel_rfl) (by kernel_rfl)) (by kernel_rfl) (by kernel_rfl) (by kernel_rfl)
      (by rw [MakeChecks.laidMetH_plain _ _ _ (by kernel_rfl)]; exact laidMet_laidAll _ (by kernel_rfl) (by kernel_rfl))) ?_
  intro W base args ds gs before hval0 hW hcnd _ hL _
  have hval : ∀ (j : Nat) t v, Tryd.f4.params[j]? = some t → args[j]? = some v → Value.okWide Tryd.prog W .any base t v := hval0
  have hW' := hW
  obtain ⟨p, q, hA0, hV, rfl, hfz, hnd⟩ := hW
  have hA : DataW.TrodAll enc Tryd.prog W 0 (fun _ => true) true Tryd.f4.params.toList args.toList ds p := hA0
  rw [Tryd.params4] at hA hval
  obtain ⟨v0, vs0, d0, ds0, p0, q0, hargs, rfl, rfl, h0, r0⟩ := trodAll_cons hA
  obtain ⟨v1, vs1, d1, ds1, p1, q1, rfl, rfl, rfl, h1, r1⟩ := trodAll_cons r0
  obtain ⟨rfl, rfl, rfl⟩ := trodAll_nil r1
  obtain rfl : args = #[v0, v1] := by cases args; simp_all
  obtain ⟨rfl, rfl⟩ := trodVars_none hV
  obtain ⟨s, rfl, rfl, rfl, ws⟩ := Go.ChangeMaps.open_string Tryd.underlying9 (hval 0 9 v0 rfl rfl) h0
  have k1 := h1
  have lt1 : ∀ x ∈ p1, x.block < W.heap.size := by obtain ⟨m, hm⟩ := k1; exact DataW.trod_lt m _ _ _ hm
  obtain ⟨g, hg⟩ := Ow.graph_in (hval 1 35 v1 rfl rfl) h1
  clear hA0 hval0
  refine (Ow.tableParses_walk W s g v1 hg).mono fun e W' ⟨he, bel⟩ => ?_
  subst he
  exact ⟨_, rfl, _, _, _, [], _, [], hW', trodAll_mk1 (shut_bool Tryd.underlying4 _), (trodAll_cons_mk (Go.ChangeMaps.shut_string Tryd.underlying9 ws) (trodAll_cons_mk (Below.trod laidOut (by kernel_rfl) (of_decide_eq_true (by kernel_rfl)) k1 bel lt1) trodAll_mk0)), rfl, bel.frame _, fun h => by cases h⟩
theorem tp1 : (Rows.tableParsesRow.inPlace == Tryd.prog.inPlace 4) = true := by kernel_rfl
theorem tp2 : (Rows.tableParsesRow.unfollowed == Tryd.prog.unfollowed 4) = true := by kernel_rfl
theorem tp3 : (Rows.tableParsesRow.recurses == Tryd.prog.recurses 4) = true := by kernel_rfl
theorem tp4 : (Rows.tableParsesRow.named == Tryd.prog.varsNamed 4) = true := by kernel_rfl
theorem tpAll : joinedFacts Tryd.prog 4 Tryd.f4 Rows.tableParsesSpec Rows.tableParsesRow = true := by
  unfold joinedFacts
  rw [tp1, tp2, tp3, tp4]
  kernel_rfl
theorem tableParses_row_holds : Rows.TableParsesSaid :=
  OpenClaim.holds_of_wide 4 Tryd.f4 rfl rfl rfl rfl rfl rfl rfl ⟨rfl, rfl, rfl, rfl, rfl⟩ rfl rfl rfl rfl rfl (by kernel_rfl) Tryd.func4 tpAll
    (of_decide_eq_true (by kernel_rfl)) (by unfold Func.isWrapper; first | (rw [if_pos (by decide +kernel)]; kernel_rfl) | (rw [if_neg (by decide +kernel)]; exact ⟨rfl, rfl⟩))
    (fun os started H enc _ => tableParses_lifted os started H enc)
theorem tableParses_holds : Rows.TableParsesCardSaid :=
  Claim7.holds_tied_plain_at .later [] [.data, .pinned] true (true, "c15087108b45a4edc1d1bdd72beb1ca6f1aae3bb3870224678dfc4827a584841") false tableParses_row_holds (fun _ h => by cases h) (by kernel_rfl) (fun _ h => by cases h) tableParses_row_tie rfl ⟨rfl, rfl⟩ (by kernel_rfl) rfl
    (fun f fn hf hfn => by
      obtain rfl : f = 4 := Option.some.inj ((show Tryd.prog.funcNamed "watershed/watershedlaw18.TableParses" = some 4 by kernel_rfl).symm.trans hf) |>.symm
      obtain rfl : fn = Tryd.f4 := (Option.some.inj (Tryd.func4.symm.trans hfn)).symm
      exact ⟨by kernel_rfl, fun j t ht => by
        rw [Tryd.params4] at ht
        have hm : t ∈ [9, 35] := by simpa using Array.mem_of_getElem? ht
        have hall : ([9, 35].all fun u => !Tryd.prog.wantsStandIn u) = true := by kernel_rfl
        exact (show Tryd.prog.wantsStandIn t = false by simpa using List.all_eq_true.1 hall t hm)⟩)
    (by kernel_rfl)
#print axioms tableParses_holds
end Go.Proofs.YthlehngbadianaaDoor
