/- Whatever records and text go in, the law DataTexts returns true, and what came in reads as it did: the records in writing, and the records that the program reads off any text, or what is wrong with it, are what the document's own answer says. Conditions: none on the input; the two package-level variables that the card lists (the tables acceptRanges and first of package unicode/utf8) are tied to the program's text by the card; the walk reads neither. -/
import Derived.Test.YthlehngbadianaaDoorOwEntry
import Derived.OpenShut
import Derived.ChangeOld
import Derived.Below
import Derived.WalkKit
import Derived.ProofKit
import Derived.Test.YthlehngbadianaaDoorTx5x6
import Derived.Test.YthlehngbadianaaDoorRows
import Derived.Test.YthlehngbadianaaDoorCards
import Derived.Test.YthlehngbadianaaDoorTie
import Derived.ChangeMaps5
import Derived.ShutString
import Derived.LaidMore
import Derived.Lay
import Derived.Shelf.Lay
import Derived.SevenTiedAt
import Derived.Stop.Joined
set_option linter.unusedVariables false
set_option linter.unusedSimpArgs false
set_option linter.unnecessarySimpa false
set_option maxRecDepth 100000
namespace Go.Proofs.YthlehngbadianaaDoor.Ow
open Go Go.RowKit Go.Proofs
theorem rec_cells {H : Type} {enc : TypeId × Value → H} {w : World} {n : Nat} {cs : List Value} {y : DataW H × List MemPlace} (h : DataW.trod enc Tryd.prog w 0 (fun _ => true) true n 63 cs = some y) :
    ∃ k v : Int, cs = [.int .i64 k, .int .i64 v] ∧ okR (k, v) := by
  obtain ⟨xs, n', _, _, hl, hx, hf⟩ := DataW.trod_struct Tryd.underlying63 h
  have hc : Tryd.prog.cellsOf 63 = 2 := by kernel_rfl
  have c24 : Tryd.prog.cellsOf 2 = 1 := by kernel_rfl
  rw [hc] at hl
  obtain ⟨a0, a1, rfl⟩ : ∃ a0 a1, cs = [a0, a1] := by
    match cs, hl with
    | [a0, a1], _ => exact ⟨a0, a1, rfl⟩
  have g0 : DataW.trod enc Tryd.prog w 0 (fun _ => true) true n' 2 (([a0, a1].drop 0).take (Tryd.prog.cellsOf 2)) = xs[0]? := hf 0 _ rfl
  have g1 : DataW.trod enc Tryd.prog w 0 (fun _ => true) true n' 2 (([a0, a1].drop 1).take (Tryd.prog.cellsOf 2)) = xs[1]? := hf 1 _ rfl
  rw [c24, List.getElem?_eq_getElem (by rw [hx]; decide)] at g0
  rw [c24, List.getElem?_eq_getElem (by rw [hx]; decide)] at g1
  obtain ⟨k, e0, _, w0⟩ := DataW.trod_int Tryd.underlying2 g0
  obtain ⟨v, e1, _, w1⟩ := DataW.trod_int Tryd.underlying2 g1
  simp at e0 e1
  subst e0 e1
  have m1 : IntKind.i64.min = -9223372036854775808 := rfl
  have m2 : IntKind.i64.max = 9223372036854775807 := rfl
  simp only [Lit.wf, Bool.and_eq_true, decide_eq_true_eq, m1, m2] at w0 w1
  exact ⟨k, v, rfl, ⟨by omega, by omega⟩, by omega, by omega⟩
theorem recs_in {W : World} {v : Value} (h : v = .slice none 0 0 ∨ ∃ (B o cap : Nat) (css : List (List Value)), v = .slice (some ⟨B, o, none⟩) css.length cap ∧ css.length ≤ cap ∧ cap ≤ maxLen ∧ (∀ cs ∈ css, cs.length = 2 ∧ ∃ k v : Int, cs = [.int .i64 k, .int .i64 v] ∧ okR (k, v)) ∧
      (∀ (i : Nat) (cs : List Value), css[i]? = some cs → ∀ (j : Nat) (u : Value), cs[j]? = some u → W.cell? ⟨B, o + i * 2 + j, none⟩ = some u)) :
    ∃ (l : List (Int × Int)) (c : AV), roL c l ∧ l.length ≤ 9223372036854775807 ∧ (∀ r ∈ l, okR r) ∧ Rep W E0 c v E0 ∧ c.one = true ∧ (∀ f caps, c ≠ .fn f caps) := by
  rcases h with rfl | ⟨B, o, cap, css, rfl, h1, h2, h3, h4⟩
  · exact ⟨[], .v (.slice none 0 0), .inl rfl, by simp, by simp, .v rfl fun _ _ h => h, rfl, by simp⟩
  · have key : ∃ l : List (Int × Int), css = l.map (fun r => [Value.int .i64 r.1, .int .i64 r.2]) ∧ ∀ r ∈ l, okR r := by
      clear h1 h4
      induction css with
      | nil => exact ⟨[], rfl, by simp⟩
      | cons cs css ih =>
        obtain ⟨_, k, v, rfl, ho⟩ := h3 _ (List.mem_cons_self ..)
        obtain ⟨l, rfl, hl⟩ := ih fun c hc => h3 c (List.mem_cons_of_mem _ hc)
        refine ⟨(k, v) :: l, rfl, fun r hr => ?_⟩
        rcases List.mem_cons.1 hr with rfl | hr
        · exact ho
        · exact hl r hr
    obtain ⟨l, rfl, hl⟩ := key
    have hm : maxLen = 9223372036854775807 := rfl
    rw [List.length_map] at h1
    refine ⟨l, .lst 2 (l.map recA), .inr rfl, by omega, hl, ?_, rfl, by simp⟩
    refine lst_in (by decide) (fun _ _ h => h) (by simp) (by simpa using h1) ?_ h4
    intro i x cs hx hcs
    rw [List.getElem?_map, Option.map_eq_some_iff] at hx hcs
    obtain ⟨r, hr, rfl⟩ := hx
    obtain ⟨r', hr', rfl⟩ := hcs
    rw [hr] at hr'
    obtain rfl := Option.some.inj hr'
    refine ⟨rfl, rfl, ?_⟩
    intro v hv
    simp only [List.mem_cons, List.not_mem_nil, or_false] at hv
    rcases hv with rfl | rfl <;> rfl
theorem dataTexts_walk (W : World) (s : ByteArray) (sl : Value) (l : List (Int × Int)) (c : AV) (hc : roL c l) (hr : ∀ r ∈ l, okR r) (hrep : Rep W E0 c sl E0) (hone : c.one = true) (hnf : ∀ f caps, c ≠ .fn f caps) :
    Calls Tryd.prog 3 #[sl, .string s] W fun e W' => e = .returned (.bool true) ∧ Below W.heap.size W W' := by
  refine entry_below (args := [c, strV s.data.toList]) rfl ?_ (fun {Q} hq => c1000 l c hc hr s.data.toList hq)
  intro i x hi
  match i, hi with
  | 0, hi => simp at hi; subst hi; exact ⟨_, rfl, fun env rt => by rcases roL_cases hc with ⟨rfl, _⟩ | rfl <;> exact hrep⟩
  | 1, hi => simp at hi; subst hi; exact ⟨_, rfl, fun env rt => Rep.v rfl fun _ _ h => h⟩
  | i + 2, hi => simp at hi
theorem recs_arg {H : Type} {enc : TypeId × Value → H} {W : World} {base : Nat} {v : Value} {d : DataW H} {p : List MemPlace} (hv : Value.okWide Tryd.prog W .any base 22 v) (h : DataW.Trod enc Tryd.prog W 0 (fun _ => true) true 22 v d p) :
    ∃ (l : List (Int × Int)) (c : AV), roL c l ∧ l.length ≤ 9223372036854775807 ∧ (∀ r ∈ l, okR r) ∧ Rep W E0 c v E0 ∧ c.one = true ∧ (∀ f caps, c ≠ .fn f caps) := by
  have hk : Cell.okWide Tryd.prog W .any base 22 v := by simpa only [Value.okWide, Tryd.underlying22] using hv
  have hcl : v.cells.toList = [v] := by
    have hk' := hk
    simp only [Cell.okWide, Tryd.underlying22, Cell.ok] at hk'
    cases v <;> first | rfl | simp at hk'
  obtain ⟨fuel, hf⟩ := h
  rw [hcl] at hf
  exact recs_in (slice_in (es := 2) Tryd.underlying22 (by kernel_rfl) hk hf (fun cs => ∃ k v : Int, cs = [.int .i64 k, .int .i64 v] ∧ okR (k, v)) (fun n cs y hy => rec_cells hy))
end Go.Proofs.YthlehngbadianaaDoor.Ow
namespace Go.Proofs.YthlehngbadianaaDoor
open Go.ChangeShapes Go.WideShapes Go.ChangeAt Go.RowKit
theorem own : ownKnob Tryd.prog.godebug = none := by kernel_rfl
theorem laidOut : laidOutB Tryd.prog = true := by kernel_rfl
theorem dataTexts_lifted (os : Os) (started : os.Started) (H : Type) (enc : TypeId × Value → H) :
    ReturnsInHanded {} Tryd.checked os 3 .any (fun w args => (Rows.dataTextsSpec.pre enc Tryd.prog Tryd.f3 Rows.dataTextsRow.domain false w args ∧ laidMetH Tryd.prog Rows.dataTextsRow.laid w) ∧ sizedMet enc Tryd.prog Tryd.f3 (OpenSpec.ofChange Rows.dataTextsSpec) false w args)
      (Rows.dataTextsSpec.post enc Tryd.prog Tryd.f3 false true false false) := by
  refine returnsInHanded_of_change_and (C := Tryd.checked) (X := fun w _ => laidMetH Tryd.prog Rows.dataTextsRow.laid w) (fun _ _ _ hh h => h.of_heap hh) own started (by kernel_rfl) Tryd.func3
    (ChangeSpec.witness_shaped (enc := enc) (C := Tryd.checked) (os := os) (X := fun w _ => laidMetH Tryd.prog Rows.dataTextsRow.laid w) false (World.laidAll Tryd.prog os Rows.dataTextsRow.laid) #[.slice none 0 0, .string ⟨#[]⟩] 8 (World.laidAll_os _ _ _)
      (World.shaped_of_ZipB (by kernel_rfl) (by kernel_rfl)) (by kernel_rfl) (by kernel_rfl) (by kernel_rfl)
      (by rw [MakeChecks.laidMetH_plain _ _ _ (by kernel_rfl)]; exact laidMet_laidAll _ (by kernel_rfl) (by kernel_rfl))) ?_
  intro W base args ds gs before hval0 hW hcnd _ hL _
  have hval : ∀ (j : Nat) t v, Tryd.f3.params[j]? = some t → args[j]? = some v → Value.okWide Tryd.prog W .any base t v := hval0
  have hW' := hW
  obtain ⟨p, q, hA0, hV, rfl, hfz, hnd⟩ := hW
  have hA : DataW.TrodAll enc Tryd.prog W 0 (fun _ => true) true Tryd.f3.params.toList args.toList ds p := hA0
  rw [Tryd.params3] at hA hval
  obtain ⟨v0, vs0, d0, ds0, p0, q0, hargs, rfl, rfl, h0, r0⟩ := trodAll_cons hA
  obtain ⟨v1, vs1, d1, ds1, p1, q1, rfl, rfl, rfl, h1, r1⟩ := trodAll_cons r0
  obtain ⟨rfl, rfl, rfl⟩ := trodAll_nil r1
  obtain rfl : args = #[v0, v1] := by cases args; simp_all
  obtain ⟨rfl, rfl⟩ := trodVars_none hV
  obtain ⟨s, rfl, rfl, rfl, ws⟩ := Go.ChangeMaps.open_string Tryd.underlying9 (hval 1 9 v1 rfl rfl) h1
  have k0 := h0
  have lt0 : ∀ x ∈ p0, x.block < W.heap.size := by obtain ⟨m, hm⟩ := k0; exact DataW.trod_lt m _ _ _ hm
  obtain ⟨l, c, hc, hlen, hr, hrep, hone, hnf⟩ := Ow.recs_arg (hval 0 22 v0 rfl rfl) h0
  clear hA0 hval0
  refine (Ow.dataTexts_walk W s v0 l c hc hr hrep hone hnf).mono fun e W' ⟨he, bel⟩ => ?_
  subst he
  exact ⟨_, rfl, _, _, _, [], _, [], hW', trodAll_mk1 (shut_bool Tryd.underlying4 _), (trodAll_cons_mk (Below.trod laidOut (by kernel_rfl) (of_decide_eq_true (by kernel_rfl)) k0 bel lt0) (trodAll_cons_mk (Go.ChangeMaps.shut_string Tryd.underlying9 ws) trodAll_mk0)), rfl, bel.frame _, fun h => by cases h⟩
theorem tp1 : (Rows.dataTextsRow.inPlace == Tryd.prog.inPlace 3) = true := by kernel_rfl
theorem tp2 : (Rows.dataTextsRow.unfollowed == Tryd.prog.unfollowed 3) = true := by kernel_rfl
theorem tp3 : (Rows.dataTextsRow.recurses == Tryd.prog.recurses 3) = true := by kernel_rfl
theorem tp4 : (Rows.dataTextsRow.named == Tryd.prog.varsNamed 3) = true := by kernel_rfl
theorem tpAll : joinedFacts Tryd.prog 3 Tryd.f3 Rows.dataTextsSpec Rows.dataTextsRow = true := by
  unfold joinedFacts
  rw [tp1, tp2, tp3, tp4]
  kernel_rfl
theorem dataTexts_row_holds : Rows.DataTextsSaid :=
  OpenClaim.holds_of_wide 3 Tryd.f3 rfl rfl rfl rfl rfl rfl rfl ⟨rfl, rfl, rfl, rfl, rfl⟩ rfl rfl rfl rfl rfl (by kernel_rfl) Tryd.func3 tpAll
    (of_decide_eq_true (by kernel_rfl)) (by unfold Func.isWrapper; first | (rw [if_pos (by decide +kernel)]; kernel_rfl) | (rw [if_neg (by decide +kernel)]; exact ⟨rfl, rfl⟩))
    (fun os started H enc _ => dataTexts_lifted os started H enc)
theorem dataTexts_holds : Rows.DataTextsCardSaid :=
  Claim7.holds_tied_plain_at .later [] [.data, .pinned] true (true, "c15087108b45a4edc1d1bdd72beb1ca6f1aae3bb3870224678dfc4827a584841") false dataTexts_row_holds (fun _ h => by cases h) (by kernel_rfl) (fun _ h => by cases h) dataTexts_row_tie rfl ⟨rfl, rfl⟩ (by kernel_rfl) rfl
    (fun f fn hf hfn => by
      obtain rfl : f = 3 := Option.some.inj ((show Tryd.prog.funcNamed "watershed/watershedlaw11.DataTexts" = some 3 by kernel_rfl).symm.trans hf) |>.symm
      obtain rfl : fn = Tryd.f3 := (Option.some.inj (Tryd.func3.symm.trans hfn)).symm
      exact ⟨by kernel_rfl, fun j t ht => by
        rw [Tryd.params3] at ht
        have hm : t ∈ [22, 9] := by simpa using Array.mem_of_getElem? ht
        have hall : ([22, 9].all fun u => !Tryd.prog.wantsStandIn u) = true := by kernel_rfl
        exact (show Tryd.prog.wantsStandIn t = false by simpa using List.all_eq_true.1 hall t hm)⟩)
    (by kernel_rfl)
#print axioms dataTexts_holds
end Go.Proofs.YthlehngbadianaaDoor
