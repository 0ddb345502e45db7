/- Whatever batch and whatever text go in, the law DataBytes returns true, and what came in reads as it did: what is wrong with a batch, its bytes and the batches of any bytes are what the document's own answer says. There are no conditions. -/
import Derived.Test.YthlehngbadianaaOwEntry
import Derived.Test.YthlehngbadianaaTd12
import Derived.Test.YthlehngbadianaaRows
import Derived.WalkKit
import Derived.ProofKit
import Derived.OpenShut
import Derived.ShutString
import Derived.ChangeOld
import Derived.ChangeMaps5
import Derived.Below
set_option linter.unusedVariables false
set_option linter.unusedSimpArgs false
set_option linter.unnecessarySimpa false
set_option maxRecDepth 100000
namespace Go.Proofs.Ythlehngbadianaa.Ow
open Go Go.RowKit Go.Proofs
theorem rec_cells {H : Type} {enc : TypeId × Value → H} {w : World} {n : Nat} {cs : List Value} {y : DataW H × List MemPlace} (h : DataW.trod enc Try.prog w 0 (fun _ => true) true n 181 cs = some y) :
    ∃ k v : Int, cs = [.int .i64 k, .int .i64 v] ∧ okR (k, v) := by
  obtain ⟨xs, n', _, _, hl, hx, hf⟩ := DataW.trod_struct Try.underlying181 h
  have hc : Try.prog.cellsOf 181 = 2 := by kernel_rfl
  have c24 : Try.prog.cellsOf 2 = 1 := by kernel_rfl
  rw [hc] at hl
  obtain ⟨a0, a1, rfl⟩ : ∃ a0 a1, cs = [a0, a1] := by
    match cs, hl with
    | [a0, a1], _ => exact ⟨a0, a1, rfl⟩
  have g0 : DataW.trod enc Try.prog w 0 (fun _ => true) true n' 2 (([a0, a1].drop 0).take (Try.prog.cellsOf 2)) = xs[0]? := hf 0 _ rfl
  have g1 : DataW.trod enc Try.prog w 0 (fun _ => true) true n' 2 (([a0, a1].drop 1).take (Try.prog.cellsOf 2)) = xs[1]? := hf 1 _ rfl
  rw [c24, List.getElem?_eq_getElem (by rw [hx]; decide)] at g0
  rw [c24, List.getElem?_eq_getElem (by rw [hx]; decide)] at g1
  obtain ⟨k, e0, _, w0⟩ := DataW.trod_int Try.underlying2 g0
  obtain ⟨v, e1, _, w1⟩ := DataW.trod_int Try.underlying2 g1
  simp at e0 e1
  subst e0 e1
  have m1 : IntKind.i64.min = -9223372036854775808 := rfl
  have m2 : IntKind.i64.max = 9223372036854775807 := rfl
  simp only [Lit.wf, Bool.and_eq_true, decide_eq_true_eq, m1, m2] at w0 w1
  exact ⟨k, v, rfl, ⟨by omega, by omega⟩, by omega, by omega⟩
theorem recs_in {W : World} {v : Value} (h : v = .slice none 0 0 ∨ ∃ (B o cap : Nat) (css : List (List Value)), v = .slice (some ⟨B, o, none⟩) css.length cap ∧ css.length ≤ cap ∧ cap ≤ maxLen ∧ (∀ cs ∈ css, cs.length = 2 ∧ ∃ k v : Int, cs = [.int .i64 k, .int .i64 v] ∧ okR (k, v)) ∧
      (∀ (i : Nat) (cs : List Value), css[i]? = some cs → ∀ (j : Nat) (u : Value), cs[j]? = some u → W.cell? ⟨B, o + i * 2 + j, none⟩ = some u)) :
    ∃ (l : List (Int × Int)) (c : AV), roL c l ∧ l.length ≤ 9223372036854775807 ∧ (∀ r ∈ l, okR r) ∧ Rep W E0 c v E0 ∧ c.one = true ∧ (∀ f caps, c ≠ .fn f caps) := by
  rcases h with rfl | ⟨B, o, cap, css, rfl, h1, h2, h3, h4⟩
  · exact ⟨[], .v (.slice none 0 0), .inl rfl, by simp, by simp, .v rfl fun _ _ h => h, rfl, by simp⟩
  · have key : ∃ l : List (Int × Int), css = l.map (fun r => [Value.int .i64 r.1, .int .i64 r.2]) ∧ ∀ r ∈ l, okR r := by
      clear h1 h4
      induction css with
      | nil => exact ⟨[], rfl, by simp⟩
      | cons cs css ih =>
        obtain ⟨_, k, v, rfl, ho⟩ := h3 _ (List.mem_cons_self ..)
        obtain ⟨l, rfl, hl⟩ := ih fun c hc => h3 c (List.mem_cons_of_mem _ hc)
        refine ⟨(k, v) :: l, rfl, fun r hr => ?_⟩
        rcases List.mem_cons.1 hr with rfl | hr
        · exact ho
        · exact hl r hr
    obtain ⟨l, rfl, hl⟩ := key
    have hm : maxLen = 9223372036854775807 := rfl
    rw [List.length_map] at h1
    refine ⟨l, .lst 2 (l.map recA), .inr rfl, by omega, hl, ?_, rfl, by simp⟩
    refine lst_in (by decide) (fun _ _ h => h) (by simp) (by simpa using h1) ?_ h4
    intro i x cs hx hcs
    rw [List.getElem?_map, Option.map_eq_some_iff] at hx hcs
    obtain ⟨r, hr, rfl⟩ := hx
    obtain ⟨r', hr', rfl⟩ := hcs
    rw [hr] at hr'
    obtain rfl := Option.some.inj hr'
    refine ⟨rfl, rfl, ?_⟩
    intro v hv
    simp only [List.mem_cons, List.not_mem_nil, or_false] at hv
    rcases hv with rfl | rfl <;> rfl
theorem dataBytes_walk (W : World) (loc d : Int) (ep x y z : Nat) (sl : Value) (s : ByteArray) (l : List (Int × Int)) (c : AV) (hc : roL c l) (hlen : l.length ≤ 9223372036854775807) (hr : ∀ r ∈ l, okR r) (hrep : Rep W E0 c sl E0) (hone : c.one = true) (hnf : ∀ f caps, c ≠ .fn f caps) :
    Calls Try.prog 6 #[.agg #[.int .i64 loc, .int .u32 ep, .int .i64 d, .int .u32 x, .int .u32 y, .int .u32 z, sl], .string s] W fun e W' => e = .returned (.bool true) ∧ Below W.heap.size W W' := by
  refine entry_below (args := [btA ⟨loc, ep, d, x, y, z, l⟩ c, strV s.data.toList]) rfl ?_ (fun {Q} hq => c6 ⟨loc, ep, d, x, y, z, l⟩ c s.data.toList hc hlen hr hq)
  intro i a hi
  match i, hi with
  | 0, hi =>
    simp only [List.getElem?_cons_zero, Option.some.injEq] at hi
    subst hi
    refine ⟨_, rfl, fun env rt => ⟨_, rfl, rfl, ?_⟩⟩
    intro i c' v hc' hv
    have hi1 : i < 7 := by
      have := (List.getElem?_eq_some_iff.1 hc').1
      simpa [btA] using this
    match i, hi1 with
    | 0, _ => simp at hc' hv; subst hc' hv; exact Rep.v rfl fun _ _ h => h
    | 1, _ => simp at hc' hv; subst hc' hv; exact Rep.v rfl fun _ _ h => h
    | 2, _ => simp at hc' hv; subst hc' hv; exact Rep.v rfl fun _ _ h => h
    | 3, _ => simp at hc' hv; subst hc' hv; exact Rep.v rfl fun _ _ h => h
    | 4, _ => simp at hc' hv; subst hc' hv; exact Rep.v rfl fun _ _ h => h
    | 5, _ => simp at hc' hv; subst hc' hv; exact Rep.v rfl fun _ _ h => h
    | 6, _ => simp at hc' hv; subst hc' hv; exact LR.of_rep hrep
  | 1, hi =>
    simp only [List.getElem?_cons_succ, List.getElem?_cons_zero, Option.some.injEq] at hi
    subst hi
    exact ⟨_, rfl, fun env rt => Rep.v rfl fun _ _ h => h⟩
  | i + 2, hi => simp at hi
end Go.Proofs.Ythlehngbadianaa.Ow
namespace Go.Proofs.Ythlehngbadianaa
open Go.ChangeShapes Go.WideShapes Go.ChangeAt Go.RowKit
theorem own : ownKnob Try.prog.godebug = none := by kernel_rfl
theorem laidOut : laidOutB Try.prog = true := by kernel_rfl
theorem batch_in {H : Type} {enc : TypeId × Value → H} {W : World} {base : Nat} {v : Value} {d : DataW H} {p : List MemPlace} (hv : Value.okWide Try.prog W .any base 53 v) (h : DataW.Trod enc Try.prog W 0 (fun _ => true) true 53 v d p) :
    ∃ (loc dd : Int) (ep x y z : Nat) (sl : Value) (l : List (Int × Int)) (c : Ow.AV), v = .agg #[.int .i64 loc, .int .u32 ep, .int .i64 dd, .int .u32 x, .int .u32 y, .int .u32 z, sl] ∧ Ow.roL c l ∧ l.length ≤ 9223372036854775807 ∧ (∀ r ∈ l, Ow.okR r) ∧ Ow.Rep W Ow.E0 c sl Ow.E0 ∧ c.one = true ∧ (∀ f caps, c ≠ .fn f caps) := by
  simp only [Value.okWide, Try.underlying53] at hv
  obtain ⟨cs, rfl, hsz, ts, hts, _, hcell⟩ := hv
  have ht7 : Try.prog.cellTypes Try.prog.depth 53 = some [3, 47, 3, 47, 47, 47, 51] := by kernel_rfl
  rw [ht7] at hts
  obtain rfl := Option.some.inj hts
  have hc53 : Try.prog.cellsOf 53 = 7 := by kernel_rfl
  rw [hc53] at hsz
  obtain ⟨a0, a1, a2, a3, a4, a5, a6, rfl⟩ : ∃ a0 a1 a2 a3 a4 a5 a6, cs = #[a0, a1, a2, a3, a4, a5, a6] := by
    have h1 : cs.toList.length = 7 := by simpa using hsz
    match hcs : cs.toList, h1 with
    | [a0, a1, a2, a3, a4, a5, a6], _ => exact ⟨a0, a1, a2, a3, a4, a5, a6, by rw [← Array.toArray_toList (xs := cs), hcs]⟩
  obtain ⟨fuel, hf⟩ := h
  simp only [Value.cells] at hf
  obtain ⟨xs, n', _, _, hl, hx, hfl⟩ := DataW.trod_struct Try.underlying53 hf
  have c51 : Try.prog.cellsOf 51 = 1 := by kernel_rfl
  have g2 : DataW.trod enc Try.prog W 0 (fun _ => true) true n' 51 (([a0, a1, a2, a3, a4, a5, a6].drop 6).take (Try.prog.cellsOf 51)) = xs[2]? := hfl 2 _ rfl
  rw [c51, List.getElem?_eq_getElem (by rw [hx]; decide)] at g2
  have k0 := hcell 0 a0 rfl
  have k1 := hcell 1 a1 rfl
  have k2 := hcell 2 a2 rfl
  have k3 := hcell 3 a3 rfl
  have k4 := hcell 4 a4 rfl
  have k5 := hcell 5 a5 rfl
  have k6 := hcell 6 a6 rfl
  obtain ⟨u0, e0, k0⟩ := k0
  obtain ⟨u1, e1, k1⟩ := k1
  obtain ⟨u2, e2, k2⟩ := k2
  obtain ⟨u3, e3, k3⟩ := k3
  obtain ⟨u4, e4, k4⟩ := k4
  obtain ⟨u5, e5, k5⟩ := k5
  obtain ⟨u6, e6, k6⟩ := k6
  simp at e0 e1 e2 e3 e4 e5 e6
  subst e0 e1 e2 e3 e4 e5 e6
  have hint : ∀ (t : TypeId) (k : IntKind) (a : Value), Try.prog.underlying t = some (.int k) → Cell.okWide Try.prog W .any base t a → ∃ n, a = .int k n ∧ k.has n := by
    intro t k a ht ha
    simp only [Cell.okWide, ht, Cell.ok] at ha
    cases a <;> simp at ha
    exact ⟨_, by rw [ha.1], ha.2⟩
  obtain ⟨n0, rfl, r0⟩ := hint _ _ _ Try.underlying3 k0
  obtain ⟨n1, rfl, r1⟩ := hint _ _ _ Try.underlying47 k1
  obtain ⟨n2, rfl, r2⟩ := hint _ _ _ Try.underlying3 k2
  obtain ⟨n3, rfl, r3⟩ := hint _ _ _ Try.underlying47 k3
  obtain ⟨n4, rfl, r4⟩ := hint _ _ _ Try.underlying47 k4
  obtain ⟨n5, rfl, r5⟩ := hint _ _ _ Try.underlying47 k5
  have mn : IntKind.u32.min = 0 := rfl
  have nat : ∀ n : Int, IntKind.u32.has n → ∃ m : Nat, n = m := by
    intro n hn
    have := hn.1
    rw [mn] at this
    exact ⟨n.toNat, by omega⟩
  obtain ⟨m1, rfl⟩ := nat _ r1
  obtain ⟨m3, rfl⟩ := nat _ r3
  obtain ⟨m4, rfl⟩ := nat _ r4
  obtain ⟨m5, rfl⟩ := nat _ r5
  have hs := Ow.recs_in (Ow.slice_in (es := 2) Try.underlying51 (by kernel_rfl) k6 g2 (fun cs => ∃ k v : Int, cs = [.int .i64 k, .int .i64 v] ∧ Ow.okR (k, v)) (fun n cs y hy => Ow.rec_cells hy))
  obtain ⟨l, c, h1, h2, h3, h4, h5, h6⟩ := hs
  exact ⟨n0, n2, m1, m3, m4, m5, a6, l, c, rfl, h1, h2, h3, h4, h5, h6⟩
theorem dataBytes_lifted (os : Os) (started : os.Started) (H : Type) (enc : TypeId × Value → H) :
    ReturnsInHanded {} Try.checked os 6 .any (Rows.dataBytesSpec.pre6 enc Try.prog Try.f6 Rows.dataBytesRow.domain false) (Rows.dataBytesSpec.post enc Try.prog Try.f6 false true false false) := by
  refine returnsInHanded_of_change (C := Try.checked) own started (by kernel_rfl) Try.func6
    (ChangeSpec.witness6 (enc := enc) (C := Try.checked) false ⟨#[], #[.agg #[.int .i64 0, .int .u32 0, .int .i64 0, .int .u32 0, .int .u32 0, .int .u32 0, .slice none 0 0], .string ⟨#[]⟩], []⟩ 8 (by kernel_rfl) (by kernel_rfl) (by kernel_rfl) (by kernel_rfl)) ?_
  intro W base args ds gs before hval0 hW hcnd _
  have hval : ∀ (j : Nat) t v, Try.f6.params[j]? = some t → args[j]? = some v → Value.okWide Try.prog W .any base t v := hval0
  have hW' := hW
  obtain ⟨p, q, hA0, hV, rfl, hfz, hnd⟩ := hW
  have hA : DataW.TrodAll enc Try.prog W 0 (fun _ => true) true Try.f6.params.toList args.toList ds p := hA0
  rw [Try.params6] at hA hval
  obtain ⟨v0, vs0, d0, ds0, p0, q0, hargs, rfl, rfl, h0, r0⟩ := trodAll_cons hA
  obtain ⟨v1, vs1, d1, ds1, p1, q1, rfl, rfl, rfl, h1, r1⟩ := trodAll_cons r0
  obtain ⟨rfl, rfl, rfl⟩ := trodAll_nil r1
  obtain rfl : args = #[v0, v1] := by cases args; simp_all
  obtain ⟨rfl, rfl⟩ := trodVars_none hV
  obtain ⟨s, rfl, rfl, rfl, ws⟩ := Go.ChangeMaps.open_string Try.underlying9 (hval 1 9 v1 rfl rfl) h1
  have k0 := h0
  have lt0 : ∀ x ∈ p0, x.block < W.heap.size := by obtain ⟨m, hm⟩ := k0; exact DataW.trod_lt m _ _ _ hm
  obtain ⟨loc, dd, ep, x, y, z, sl, l, c, rfl, hc, hlen, hr, hrep, hone, hnf⟩ := batch_in (hval 0 53 v0 rfl rfl) h0
  clear hA0 hval0
  refine (Ow.dataBytes_walk W loc dd ep x y z sl s l c hc hlen hr hrep hone hnf).mono fun e W' ⟨he, bel⟩ => ?_
  subst he
  exact ⟨_, rfl, _, _, _, [], _, [], hW', trodAll_mk1 (shut_bool Try.underlying4 _), (trodAll_cons_mk (Below.trod laidOut (by kernel_rfl) (of_decide_eq_true (by kernel_rfl)) k0 bel lt0) (trodAll_cons_mk (Go.ChangeMaps.shut_string Try.underlying9 ws) trodAll_mk0)), rfl, bel.frame _, fun h => by cases h⟩
theorem dataBytes_holds : Rows.DataBytesSaid :=
  OpenClaim.holds_of_wide 6 Try.f6 rfl rfl rfl rfl rfl rfl rfl ⟨rfl, rfl, rfl, rfl, rfl⟩ rfl rfl rfl rfl rfl (by kernel_rfl) Try.func6 (by kernel_rfl)
    (of_decide_eq_true (by kernel_rfl)) (by unfold Func.isWrapper; first | (rw [if_pos (by decide +kernel)]; kernel_rfl) | (rw [if_neg (by decide +kernel)]; exact ⟨rfl, rfl⟩))
    (fun os started H enc _ => dataBytes_lifted os started H enc)
#print axioms dataBytes_holds
end Go.Proofs.Ythlehngbadianaa
