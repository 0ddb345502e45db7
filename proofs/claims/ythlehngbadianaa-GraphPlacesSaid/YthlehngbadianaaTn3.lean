/- What the functions of the program do, each once: contracts of the logic (part n3). -/
import Derived.Test.YthlehngbadianaaTn2
set_option linter.unusedVariables false
set_option linter.unusedSimpArgs false
set_option linter.unnecessarySimpa false
namespace Go.Proofs.Ythlehngbadianaa.Ow
open Go Go.Proofs Go.RowKit Go.Shelf
attribute [local go_sem] Oper.semAt_some
def kAt (lo : List Lo) (k : Int) : Nat → Int
  | 0 => k
  | j + 1 => upAt lo (kAt lo k j)
set_option maxRecDepth 100000 in
set_option maxHeartbeats 4000000 in
theorem fits_ok (n : Nat) (hn : 6 ≤ n) (k0 loc ep x y z : Int) (D : Nat) (hD : D ≤ 3) (lo : List Lo) (s0 s1 s2 s3 : Value) (w : World)
    (hs1 : 0 < D → ∃ B o cap, s1 = .slice (some ⟨B, o, none⟩) lo.length cap ∧ B < w.heap.size ∧ ∀ (i : Nat) l, lo[i]? = some l → w.cell? ⟨B, o + i * 3 + 1, none⟩ = some (.int .i64 l.2.1) ∧ w.cell? ⟨B, o + i * 3 + 2, none⟩ = some (.int .i64 l.2.2))
    (hk : ∀ j, j < D → 0 ≤ kAt lo k0 j ∧ kAt lo k0 j < lo.length) (hr : ∀ (i : Nat) l, lo[i]? = some l → 1 ≤ l.2.2 ∧ l.2.2 ≤ 8)
    (h45 : ∀ W', Below w.heap.size w W' → Calls Try.prog 45 #[.agg #[s0, s1, s2, s3], .int .i64 loc] W' fun e W2 => e = .returned (.tuple #[.int .i64 k0, .int .i64 D, .int .i64 0]) ∧ Below W'.heap.size W' W2)
    (h116 : ∀ W', Below w.heap.size w W' → Calls Try.prog 116 #[.agg #[.int .u32 ep, .int .i64 D, .int .u32 x, .int .u32 y, .int .u32 z]] W' fun e W2 => e = .returned (.int .i64 0) ∧ Below W'.heap.size W' W2) :
    CallsIn Fence.wide n Try.prog 50 #[.agg #[s0, s1, s2, s3], .int .i64 loc, .agg #[.int .u32 ep, .int .i64 D, .int .u32 x, .int .u32 y, .int .u32 z]] w fun e W' => e = .returned (.bool (decide (∀ j, j < D → nth3 x y z (D - 1 - j) < rndAt lo (kAt lo k0 j)))) ∧ Below w.heap.size w W' := by
  have h1 : 1 ≤ n := by omega
  have hal : Try.prog.arrayLen 48 = 3 := by kernel_rfl
  have hsl : ∀ (B : Nat) (W : World), Sem.run Try.prog (Instr.sliceAt 48 (.pointer (some ⟨B, 2, none⟩)) none (some (.int .i64 (D : Int))) none) W = .ok (.slice (some ⟨B, 2, none⟩) D 3) W := by
    intro B W
    have hu : Try.prog.underlying 48 = some (.array (Try.prog.arrayLen 48) (Try.prog.elem 48)) := by kernel_rfl
    rw [run_sliceAt_array_h (P := Try.prog) W 48 ⟨B, 2, none⟩ hu .i64 (D : Int) (by omega) (by rw [hal]; omega)]
    simp [slicedAt, hal, go_sem, Addr.add]
  have hbx := Bx50.first w s0 s1 s2 s3 (.int .u32 ep) (.int .i64 D) (.int .u32 x) (.int .u32 y) (.int .u32 z)
  have hB0 := hbx.bel
  refine callsIn_of_wp_marks Try.func50 rfl trivial ?_ rfl
  simp only [Try.ntmps50, List.size_toArray, List.length_cons, List.length_nil, Nat.reduceAdd, Nat.reduceSub, Array.replicate_succ, Array.replicate_zero, List.push_toArray, List.append_toArray, List.nil_append, List.cons_append]
  gi_wp2_with (first | (refine ⟨trivial, ?_⟩; gi_at_call 45; refine CallsIn.mono (callsIn_wide.2 (h45 _ hB0)) ?_; rintro e w1 ⟨rfl, hb1⟩; have hsz1 : w.heap.size + 3 ≤ w1.heap.size := (hbx.after hb1).sz; replace hbx := (hbx.after hb1).alloc (.cells #[.int .i64 k0] 3); have hcc := hbx.cells; obtain ⟨c0, c1, c2, c3, c4, c5, c6, c7, c8, c9, c10⟩ := hcc; replace hB0 := hbx.bel) | (refine ⟨trivial, ?_⟩; gi_at_call 116; refine CallsIn.mono (callsIn_wide.2 (h116 _ hB0)) ?_; rintro e w2 ⟨rfl, hb2⟩; have b7 : w2.heap[w1.heap.size]? = some (.cells #[.int .i64 k0] 3 (0, 0)) := (hb2.block w1.heap.size (by simp)).trans (World.alloc_heap_new w1 _); have hsz2 : w1.heap.size + 1 ≤ w2.heap.size := Nat.le_trans (by simp) hb2.size; replace hbx := hbx.after hb2; have hcc := hbx.cells; obtain ⟨c0', c1', c2', c3', c4', c5', c6', c7', c8', c9', c10'⟩ := hcc; replace hB0 := hbx.bel) | (refine ⟨trivial, ?_⟩; gi_at_call 140; refine (back_in Fence.wide (n - 1) trivial rfl _ _ _ _).mono ?_; rintro e w3 ⟨rfl, rfl⟩))
  obtain ⟨W0, hW0⟩ : ∃ W0, w2.alloc (.cells #[Value.slice (some ⟨w.heap.size + 1, 2, none⟩) D 3] 211) = W0 := ⟨_, rfl⟩
  obtain ⟨zs, hzs⟩ : ∃ zs : List Int, zs = [x, y, z].take D := ⟨_, rfl⟩
  have hzl : zs.length = D := by rw [hzs]; simp; omega
  have hz : ∀ j, j < D → zs[j]?.getD 0 = nth3 x y z j := by
    intro j hj
    rw [hzs, List.getElem?_take, if_pos hj]
    have : j = 0 ∨ j = 1 ∨ j = 2 := by omega
    rcases this with rfl | rfl | rfl <;> rfl
  replace hbx := hbx.alloc (.cells #[Value.slice (some ⟨w.heap.size + 1, 2, none⟩) D 3] 211)
  have b7' := (Below.heap_alloc w2 (.cells #[Value.slice (some ⟨w.heap.size + 1, 2, none⟩) D 3] 211) w1.heap.size (by omega)).trans b7
  have bS := World.alloc_heap_new w2 (.cells #[Value.slice (some ⟨w.heap.size + 1, 2, none⟩) D 3] 211)
  have hsz3 : w2.heap.size + 1 = W0.heap.size := by rw [← hW0]; simp
  rw [hW0] at hbx b7' bS ⊢
  have hcS : W0.cell? ⟨w2.heap.size, 0, none⟩ = some (.slice (some ⟨w.heap.size + 1, 2, none⟩) zs.length 3) := by rw [hzl]; exact cellOf bS 0 _ rfl
  have hcz : ∀ j, j < zs.length → W0.cell? ⟨w.heap.size + 1, 2 + j, none⟩ = some (.int .u32 (zs[j]?.getD 0)) := by
    intro j hj
    rw [hz j (by omega)]
    have : j = 0 ∨ j = 1 ∨ j = 2 := by omega
    rcases this with rfl | rfl | rfl
    · exact cellOf hbx.t 2 _ rfl
    · exact cellOf hbx.t 3 _ rfl
    · exact cellOf hbx.t 4 _ rfl
  refine wpIn_rangeFunc_ownG rfl h1 (gf := 197) (lb := #[.pointer (some ⟨w2.heap.size, 0, none⟩)]) rfl trivial (enters_of Try.func197 (by kernel_rfl) rfl)
    (back_stops Fence.wide (n - 1) trivial rfl (by omega) w2.heap.size (w.heap.size + 1) 2 3 zs (by omega) W0 (by omega) (by omega) hcS hcz) Kp2.trans (fun W l o o' h2 h3 h4 h5 => Kp2.put (N := W0.heap.size) W l o o' h2 h3 h4 h5) (Below.refl _ _) (fun _ => rfl)
    (fun pre W => ((∀ (j : Nat) p, pre[j]? = some p → p.2 < rndAt lo (kAt lo k0 j)) ∧ W.cell? ⟨w1.heap.size, 0, none⟩ = some (.int .i64 (kAt lo k0 pre.length)) ∧ W.frozen? ⟨w1.heap.size, 0, none⟩ = false ∧ W.cell? ⟨w.heap.size + 1 + 1, 0, none⟩ = some (.bool false) ∧ W.frozen? ⟨w.heap.size + 1 + 1, 0, none⟩ = false ∧ W.cell? ⟨w.heap.size, 1, none⟩ = some s1) ∧ Below w.heap.size w W)
    (fun c pre W => (c = .ret ∧ (∃ j : Nat, ∃ p, pre[j]? = some p ∧ rndAt lo (kAt lo k0 j) ≤ p.2) ∧ W.cell? ⟨w.heap.size + 1 + 1, 0, none⟩ = some (.bool false)) ∧ Below w.heap.size w W)
    (OwnFrom.and (Own.from (fun s A B row hs hg hr => ⟨hs.1, cell_kept hs.2.1 hg hr, (frozen_kept hs.2.1 hg hr).trans hs.2.2.1, cell_kept hs.2.2.2.1 hg hr, (frozen_kept hs.2.2.2.1 hg hr).trans hs.2.2.2.2.1, cell_kept hs.2.2.2.2.2 hg hr⟩) _) (ownFrom_below (Nat.le_refl _) (by omega)))
    (fun c => OwnFrom.and (Own.from (fun s A B row hs hg hr => ⟨hs.1, hs.2.1, cell_kept hs.2.2 hg hr⟩) _) (ownFrom_below (Nat.le_refl _) (by omega)))
    ⟨⟨by simp, cellOf b7' 0 _ rfl, frzOf b7' 0, hbx.cells.2.2.2.2.2.2.2.2.2.1, hbx.cells.2.2.2.2.2.2.2.2.2.2, hbx.cells.2.1⟩, hbx.bel⟩
    (fun q => { tmps := #[Value.agg #[s0, s1, s2, s3], Value.int .i64 loc, Value.agg #[.int .u32 ep, .int .i64 (D : Int), .int .u32 x, .int .u32 y, .int .u32 z], Value.pointer (some ⟨w.heap.size, 0, none⟩), undef, Value.pointer (some ⟨w.heap.size + 1, 0, none⟩), Value.pointer (some ⟨w.heap.size + 1 + 1, 0, none⟩), Value.pointer (some ⟨w1.heap.size, 0, none⟩), Value.int .i64 (D : Int), Value.int .i64 0, undef, Value.int .u32 q.2, Value.tuple #[.int .i64 k0, .int .i64 (D : Int), .int .i64 0], Value.agg #[s0, s1, s2, s3], Value.int .i64 loc, Value.tuple #[.int .i64 k0, .int .i64 (D : Int), .int .i64 0], Value.int .i64 k0, Value.int .i64 (D : Int), Value.int .i64 0, Value.int .i64 0, Value.bool false, Value.bool false, Value.agg #[.int .u32 ep, .int .i64 (D : Int), .int .u32 x, .int .u32 y, .int .u32 z], Value.int .i64 0, Value.bool false, Value.bool false, Value.bool false, Value.pointer (some ⟨w.heap.size + 1, 1, none⟩), Value.int .i64 (D : Int), Value.int .i64 (D : Int), Value.bool false, Value.bool false, Value.pointer (some ⟨w.heap.size + 1, 2, none⟩), Value.int .i64 (D : Int), Value.slice (some ⟨w.heap.size + 1, 2, none⟩) D 3, Value.func (.func 197) #[] #[Value.pointer (some ⟨w2.heap.size, 0, none⟩)], Value.int .i64 (q.1 : Int), Value.int .u32 q.2, undef, undef, undef, undef, undef, undef, undef, undef, undef, undef, undef, undef, undef, undef, undef], defers := [] }) ?assign ?body ?done ?stop
  case assign =>
    intro l x W K hK
    gi_wp2
    exact hK
  case body =>
    rintro l pre q W ⟨⟨hp, hc7, hf7, hcr, hfr, hc3⟩, hB⟩ hlt
    obtain ⟨B, o, cap, rfl, hBlt, hcl⟩ := hs1 (by omega)
    have hkj := hk pre.length (by omega)
    obtain ⟨kn, hkn⟩ : ∃ kn : Nat, kAt lo k0 pre.length = kn := ⟨(kAt lo k0 pre.length).toNat, by omega⟩
    have hkl : kn < lo.length := by omega
    obtain ⟨l', hl'⟩ : ∃ l', lo[kn]? = some l' := ⟨_, List.getElem?_eq_getElem hkl⟩
    have hcells := hcl kn l' hl'
    have hcu := (hB.cell (p := ⟨B, o + kn * 3 + 1, none⟩) hBlt).trans hcells.1
    have hcr2 := (hB.cell (p := ⟨B, o + kn * 3 + 2, none⟩) hBlt).trans hcells.2
    have hrr := hr kn l' hl'
    have hwu : IntKind.u32.wrap l'.2.2 = l'.2.2 := wrU32 (by omega) (by omega)
    have hrn : rndAt lo (kAt lo k0 pre.length) = l'.2.2 := by rw [hkn]; simp only [rndAt, Int.toNat_natCast, hl']
    have hup : kAt lo k0 (pre.length + 1) = l'.2.1 := by rw [kAt, hkn]; simp only [upAt, Int.toNat_natCast, hl']
    rw [hkn] at hc7
    gi_wp2
    · have hx : l'.2.2 ≤ q.2 := by assumption
      exact ⟨(KeepsOthers.setCell _ _ _).from _, ⟨rfl, ⟨pre.length, q, by simp, by rw [hrn]; exact hx⟩, World.cell?_setCell_same' _ _ _ (by rw [hcr]; rfl)⟩, hB.setCell (p := ⟨w.heap.size + 1 + 1, 0, none⟩) (by simp; omega) _⟩
    · have hx : q.2 < l'.2.2 := by assumption
      refine ⟨(KeepsOthers.setCell _ _ _).from _, Kp2.set _ _ _ (by simp; omega) (by simp; omega), ⟨?_, ?_, by rw [World.frozen?_setCell]; exact hf7, ?_, by rw [World.frozen?_setCell]; exact hfr, ?_⟩, hB.setCell (p := ⟨w1.heap.size, 0, none⟩) (by simp; omega) _⟩
      · intro j p hj
        rcases Nat.lt_or_ge j pre.length with h | h
        · rw [List.getElem?_append_left h] at hj
          exact hp j p hj
        · rw [List.getElem?_append_right h] at hj
          rcases Nat.eq_zero_or_pos (j - pre.length) with h0 | h0
          · rw [h0] at hj
            simp only [List.getElem?_cons_zero, Option.some.injEq] at hj
            subst hj
            rw [show j = pre.length from by omega, hrn]; exact hx
          · rw [List.getElem?_eq_none (by simp; omega)] at hj; cases hj
      · rw [List.length_append, List.length_cons, List.length_nil, Nat.zero_add, hup]
        exact World.cell?_setCell_same' _ _ _ (by rw [hc7]; rfl)
      · rw [World.cell?_setCell_other (h := fun e => by have := congrArg Addr.block e; simp at this; omega)]; exact hcr
      · rw [World.cell?_setCell_other (h := fun e => by have := congrArg Addr.block e; simp at this; omega)]; exact hc3
  case done =>
    rintro D' ys W hD' rfl ⟨⟨hp, hc7, hf7, hcr, hfr, hc3⟩, hB⟩ hK
    gi_wp2
    have hK' := (KeepsOthers.setCell W ⟨w.heap.size + 1 + 1, 0, none⟩ (.bool true)).same D' _ hK rfl
    refine ⟨by simp, .inl ⟨_, _, rfl, run_takeDeferred hK', ?_⟩⟩
    have hc5 := cell_kept (World.cell?_setCell_same' W ⟨w.heap.size + 1 + 1, 0, none⟩ (.bool true) (by rw [hcr]; rfl)) (grownBy_putObj' _ D' (.deferred none)) (fun r e => by cases e; exact ⟨_, hK', rfl⟩)
    refine ⟨.bool true, ?_, ?_, (hB.setCell (p := ⟨w.heap.size + 1 + 1, 0, none⟩) (by simp; omega) _).trans (belowK_b (w := w) (Nat.le_refl _) _ D' _ _ (by have := hbx.bel.size; omega) hK' rfl rfl)⟩
    · simp [results, Try.f50, go_sem, hc5]
    · have key : ∀ j, j < D → nth3 x y z (D - 1 - j) < rndAt lo (kAt lo k0 j) := by
        intro j hj
        have := hp j (bkF zs.length zs j) (by rw [bkU, List.getElem?_map, List.getElem?_range (by omega)]; rfl)
        simp only [bkF] at this
        rwa [hz _ (by omega), hzl] at this
      rw [decide_eq_true key]
  case stop =>
    rintro D' c pre W hD' ⟨k, hk', rfl⟩ ⟨⟨rfl, hex, hcr⟩, hB⟩ hK
    gi_wp2
    refine ⟨by simp, .inl ⟨_, _, rfl, run_takeDeferred hK, ?_⟩⟩
    have hc5 := cell_kept hcr (grownBy_putObj' _ D' (.deferred none)) (fun r e => by cases e; exact ⟨_, hK, rfl⟩)
    refine ⟨.bool false, ?_, ?_, hB.trans (belowK_b (w := w) (Nat.le_refl _) _ D' _ _ (by have := hbx.bel.size; omega) hK rfl rfl)⟩
    · simp [results, Try.f50, go_sem, hc5]
    · obtain ⟨j, p, hj, hle'⟩ := hex
      have key : ¬ ∀ j, j < D → nth3 x y z (D - 1 - j) < rndAt lo (kAt lo k0 j) := by
        intro hall
        have hjk : j < k := by
          have := (List.getElem?_eq_some_iff.1 hj).1
          rwa [bkU_len] at this
        rw [bkU, List.getElem?_map, List.getElem?_range hjk] at hj
        have e : bkF zs.length zs j = p := by simpa using hj
        subst e
        simp only [bkF] at hle'
        rw [hz _ (by omega), hzl] at hle'
        have := hall j (by omega)
        omega
      rw [decide_eq_false key]
end Go.Proofs.Ythlehngbadianaa.Ow
