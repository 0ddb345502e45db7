/- What the functions of the program do, each once: contracts of the logic (part n2). -/
import Derived.Test.YthlehngbadianaaTn1
import Derived.Test.YthlehngbadianaaTm3
set_option linter.unusedVariables false
set_option linter.unusedSimpArgs false
set_option linter.unnecessarySimpa false
namespace Go.Proofs.Ythlehngbadianaa.Ow
open Go Go.Proofs Go.RowKit Go.Shelf
attribute [local go_sem] Oper.semAt_some
theorem cellOf {W : World} {B : Nat} {arr : Array Value} {t : TypeId} {fz : Nat × Nat} (h : W.heap[B]? = some (.cells arr t fz)) (i : Nat) (v : Value) (hv : arr[i]? = some v) : W.cell? ⟨B, i, none⟩ = some v := by simp [World.cell?, h, hv]
theorem frzOf {W : World} {B : Nat} {arr : Array Value} {t : TypeId} (h : W.heap[B]? = some (.cells arr t (0, 0))) (i : Nat) : W.frozen? ⟨B, i, none⟩ = false := by simp [World.frozen?, h]
/-- The boxes of a call of Fits. -/
structure Bx50 (w : World) (s0 s1 s2 s3 t0 t1 t2 t3 t4 : Value) (W : World) : Prop where
  g : W.heap[w.heap.size]? = some (.cells #[s0, s1, s2, s3] 82 (0, 0))
  t : W.heap[w.heap.size + 1]? = some (.cells #[t0, t1, t2, t3, t4] 50 (0, 0))
  r : W.heap[w.heap.size + 1 + 1]? = some (.cells #[.bool false] 4 (0, 0))
  sz : w.heap.size + 3 ≤ W.heap.size
  bel : Below w.heap.size w W
theorem Bx50.first (w : World) (s0 s1 s2 s3 t0 t1 t2 t3 t4 : Value) : Bx50 w s0 s1 s2 s3 t0 t1 t2 t3 t4 (((w.alloc (.cells #[s0, s1, s2, s3] 82)).alloc (.cells #[t0, t1, t2, t3, t4] 50)).alloc (.cells #[.bool false] 4)) := by
  refine ⟨?_, ?_, ?_, by simp, (((Below.refl _ w).alloc (Nat.le_refl _) _).alloc (by simp) _).alloc (by simp; omega) _⟩
  · rw [Below.heap_alloc _ _ _ (by simp; omega), Below.heap_alloc _ _ _ (by simp)]
    exact World.alloc_heap_new w _
  · rw [Below.heap_alloc _ _ _ (by simp)]
    have := World.alloc_heap_new (w.alloc (.cells #[s0, s1, s2, s3] 82)) (.cells #[t0, t1, t2, t3, t4] 50)
    rwa [World.size_alloc] at this
  · have := World.alloc_heap_new ((w.alloc (.cells #[s0, s1, s2, s3] 82)).alloc (.cells #[t0, t1, t2, t3, t4] 50)) (.cells #[.bool false] 4)
    rwa [World.size_alloc, World.size_alloc] at this
theorem Bx50.after {w : World} {s0 s1 s2 s3 t0 t1 t2 t3 t4 : Value} {W W' : World} (h : Bx50 w s0 s1 s2 s3 t0 t1 t2 t3 t4 W) (hb : Below W.heap.size W W') : Bx50 w s0 s1 s2 s3 t0 t1 t2 t3 t4 W' := by
  have hs := h.sz
  exact ⟨(hb.block _ (by omega)).trans h.g, (hb.block _ (by omega)).trans h.t, (hb.block _ (by omega)).trans h.r, Nat.le_trans h.sz hb.size, h.bel.trans (hb.mono h.bel.size)⟩
theorem Bx50.alloc {w : World} {s0 s1 s2 s3 t0 t1 t2 t3 t4 : Value} {W : World} (h : Bx50 w s0 s1 s2 s3 t0 t1 t2 t3 t4 W) (o : Obj) : Bx50 w s0 s1 s2 s3 t0 t1 t2 t3 t4 (W.alloc o) := h.after ((Below.refl _ W).alloc (Nat.le_refl _) o)
theorem Bx50.cells {w : World} {s0 s1 s2 s3 t0 t1 t2 t3 t4 : Value} {W : World} (h : Bx50 w s0 s1 s2 s3 t0 t1 t2 t3 t4 W) :
    W.cell? ⟨w.heap.size, 0, none⟩ = some s0 ∧ W.cell? ⟨w.heap.size, 1, none⟩ = some s1 ∧ W.cell? ⟨w.heap.size, 2, none⟩ = some s2 ∧ W.cell? ⟨w.heap.size, 3, none⟩ = some s3 ∧
    W.cell? ⟨w.heap.size + 1, 0, none⟩ = some t0 ∧ W.cell? ⟨w.heap.size + 1, 1, none⟩ = some t1 ∧ W.cell? ⟨w.heap.size + 1, 2, none⟩ = some t2 ∧ W.cell? ⟨w.heap.size + 1, 3, none⟩ = some t3 ∧ W.cell? ⟨w.heap.size + 1, 4, none⟩ = some t4 ∧
    W.cell? ⟨w.heap.size + 1 + 1, 0, none⟩ = some (.bool false) ∧ W.frozen? ⟨w.heap.size + 1 + 1, 0, none⟩ = false :=
  ⟨cellOf h.g 0 _ rfl, cellOf h.g 1 _ rfl, cellOf h.g 2 _ rfl, cellOf h.g 3 _ rfl, cellOf h.t 0 _ rfl, cellOf h.t 1 _ rfl, cellOf h.t 2 _ rfl, cellOf h.t 3 _ rfl, cellOf h.t 4 _ rfl, cellOf h.r 0 _ rfl, frzOf h.r 0⟩
set_option maxRecDepth 100000 in
set_option maxHeartbeats 4000000 in
theorem fits_bad (n : Nat) (hn : 6 ≤ n) (k0 dd er ch loc ep d x y z : Int) (s0 s1 s2 s3 : Value) (w : World) (hbad : er ≠ 0 ∨ (er = 0 ∧ ch ≠ 0) ∨ (er = 0 ∧ ch = 0 ∧ d ≠ dd))
    (h45 : ∀ W', Below w.heap.size w W' → Calls Try.prog 45 #[.agg #[s0, s1, s2, s3], .int .i64 loc] W' fun e W2 => e = .returned (.tuple #[.int .i64 k0, .int .i64 dd, .int .i64 er]) ∧ Below W'.heap.size W' W2)
    (h116 : ∀ W', Below w.heap.size w W' → Calls Try.prog 116 #[.agg #[.int .u32 ep, .int .i64 d, .int .u32 x, .int .u32 y, .int .u32 z]] W' fun e W2 => e = .returned (.int .i64 ch) ∧ Below W'.heap.size W' W2) :
    CallsIn Fence.wide n Try.prog 50 #[.agg #[s0, s1, s2, s3], .int .i64 loc, .agg #[.int .u32 ep, .int .i64 d, .int .u32 x, .int .u32 y, .int .u32 z]] w fun e W' => e = .returned (.bool false) ∧ Below w.heap.size w W' := by
  have h1 : 1 ≤ n := by omega
  have hbx := Bx50.first w s0 s1 s2 s3 (.int .u32 ep) (.int .i64 d) (.int .u32 x) (.int .u32 y) (.int .u32 z)
  have hB0 := hbx.bel
  refine callsIn_of_wp_marks Try.func50 rfl trivial ?_ rfl
  simp only [Try.ntmps50, List.size_toArray, List.length_cons, List.length_nil, Nat.reduceAdd, Nat.reduceSub, Array.replicate_succ, Array.replicate_zero, List.push_toArray, List.append_toArray, List.nil_append, List.cons_append]
  rcases hbad with hbad | hbad | hbad
  · gi_wp2_with (refine ⟨trivial, ?_⟩; gi_at_call 45; refine CallsIn.mono (callsIn_wide.2 (h45 _ hB0)) ?_; rintro e w1 ⟨rfl, hb1⟩; replace hbx := (hbx.after hb1).alloc (.cells #[.int .i64 k0] 3); have hcc := hbx.cells; obtain ⟨c0, c1, c2, c3, c4, c5, c6, c7, c8, c9, c10⟩ := hcc)
    refine ⟨trivial, ?_⟩
    gi_wp2
    have hcc := World.cell?_setCell_same' (w1.alloc (.cells #[.int .i64 k0] 3)) ⟨w.heap.size + 1 + 1, 0, none⟩ (.bool false) (by rw [c9]; rfl)
    refine ⟨.bool false, ?_, rfl, hbx.bel.setCell (p := ⟨w.heap.size + 1 + 1, 0, none⟩) (by simp; omega) _⟩
    simp [results, Try.f50, go_sem, hcc]
  · obtain ⟨rfl, hbad⟩ := hbad
    gi_wp2_with (first | (refine ⟨trivial, ?_⟩; gi_at_call 45; refine CallsIn.mono (callsIn_wide.2 (h45 _ hB0)) ?_; rintro e w1 ⟨rfl, hb1⟩; replace hbx := (hbx.after hb1).alloc (.cells #[.int .i64 k0] 3); have hcc := hbx.cells; obtain ⟨c0, c1, c2, c3, c4, c5, c6, c7, c8, c9, c10⟩ := hcc; replace hB0 := hbx.bel) | (refine ⟨trivial, ?_⟩; gi_at_call 116; refine CallsIn.mono (callsIn_wide.2 (h116 _ hB0)) ?_; rintro e w2 ⟨rfl, hb2⟩; replace hbx := hbx.after hb2; have hcc := hbx.cells; obtain ⟨c0', c1', c2', c3', c4', c5', c6', c7', c8', c9', c10'⟩ := hcc; replace hB0 := hbx.bel))
    have hcc := World.cell?_setCell_same' w2 ⟨w.heap.size + 1 + 1, 0, none⟩ (.bool false) (by rw [c9']; rfl)
    refine ⟨.bool false, ?_, rfl, hB0.setCell (p := ⟨w.heap.size + 1 + 1, 0, none⟩) (by simp; omega) _⟩
    simp [results, Try.f50, go_sem, hcc]
  · obtain ⟨rfl, rfl, hbad⟩ := hbad
    gi_wp2_with (first | (refine ⟨trivial, ?_⟩; gi_at_call 45; refine CallsIn.mono (callsIn_wide.2 (h45 _ hB0)) ?_; rintro e w1 ⟨rfl, hb1⟩; replace hbx := (hbx.after hb1).alloc (.cells #[.int .i64 k0] 3); have hcc := hbx.cells; obtain ⟨c0, c1, c2, c3, c4, c5, c6, c7, c8, c9, c10⟩ := hcc; replace hB0 := hbx.bel) | (refine ⟨trivial, ?_⟩; gi_at_call 116; refine CallsIn.mono (callsIn_wide.2 (h116 _ hB0)) ?_; rintro e w2 ⟨rfl, hb2⟩; replace hbx := hbx.after hb2; have hcc := hbx.cells; obtain ⟨c0', c1', c2', c3', c4', c5', c6', c7', c8', c9', c10'⟩ := hcc; replace hB0 := hbx.bel))
    have hcc := World.cell?_setCell_same' w2 ⟨w.heap.size + 1 + 1, 0, none⟩ (.bool false) (by rw [c9']; rfl)
    refine ⟨.bool false, ?_, rfl, hB0.setCell (p := ⟨w.heap.size + 1 + 1, 0, none⟩) (by simp; omega) _⟩
    simp [results, Try.f50, go_sem, hcc]
end Go.Proofs.Ythlehngbadianaa.Ow
