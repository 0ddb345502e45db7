/- What the functions of the program do, each once: contracts of the logic (part n5). -/
import Derived.Test.YthlehngbadianaaTn4
set_option linter.unusedVariables false
set_option linter.unusedSimpArgs false
set_option linter.unnecessarySimpa false
set_option maxRecDepth 100000
set_option maxHeartbeats 4000000
namespace Go.Proofs.Ythlehngbadianaa.Ow
open Go Go.RowKit Go.Proofs
theorem kAt_up (lo : List Lo) (k : Int) : ∀ j, kAt lo k (j + 1) = kAt lo (upAt lo k) j
  | 0 => rfl
  | j + 1 => by rw [kAt, kAt_up lo k j]; rfl
theorem fitN_all (lo : List Lo) (x y z : Int) : ∀ (n : Nat) (k : Int), fitN lo x y z n k = decide (∀ j, j < n → nth3 x y z (n - 1 - j) < rndAt lo (kAt lo k j))
  | 0, k => by simp [fitN]
  | n + 1, k => by
    rw [fitN, fitN_all lo x y z n]
    by_cases h : rndAt lo k ≤ nth3 x y z n
    · rw [if_pos h, decide_eq_false]
      intro hh
      have := hh 0 (by omega)
      simp only [kAt, Nat.add_sub_cancel, Nat.sub_zero] at this
      omega
    · rw [if_neg h]
      congr 1
      apply propext
      constructor
      · intro hh j hj
        rcases j with _ | j
        · simp only [kAt, Nat.add_sub_cancel, Nat.sub_zero]; omega
        · have := hh j (by omega)
          rw [kAt_up, show n + 1 - 1 - (j + 1) = n - 1 - j from by omega]
          exact this
      · intro hh j hj
        have := hh (j + 1) (by omega)
        rwa [kAt_up, show n + 1 - 1 - (j + 1) = n - 1 - j from by omega] at this
theorem kAt_in {lo : List Lo} {N : Nat} (hW : WfL lo N) {k : Int} {D : Nat} (hk : k < N) (hk0 : -1 ≤ k) (hd : deepN lo k = D) : ∀ j, j ≤ D → kAt lo k j < N ∧ -1 ≤ kAt lo k j ∧ deepN lo (kAt lo k j) = (D - j : Nat)
  | 0, _ => ⟨hk, hk0, by rw [kAt, hd]; rfl⟩
  | j + 1, h => by
    obtain ⟨a, b, c⟩ := kAt_in hW hk hk0 hd j (by omega)
    rw [show D - j = (D - (j + 1)) + 1 from by omega] at c
    obtain ⟨u0, u1, u2, u3⟩ := deepN_up hW a c
    exact ⟨by rw [kAt]; omega, u3, u2⟩
theorem c50 (g : Gr) (hn : NmOk g) (loc : Int) (ep d x y z : Int) {Q : AV → Al → Prop} (h : Q (.v (.bool (fitR g loc ep d x y z))) []) : ACalls Try.prog 50 [] [gA g, i64A loc, tmI ep d x y z] Q := by
  refine ACalls.kit rfl ?_ h
  intro I w F env vals hl hv
  obtain ⟨gv, g1, g2⟩ := hv 0 _ rfl
  obtain ⟨lv, l1, l2⟩ := hv 1 _ rfl
  obtain ⟨tv, t1, t2⟩ := hv 2 _ rfl
  have hg := GrV.of g2
  have hlv := v_of l2
  obtain ⟨htv, o1, o2, o3, o4, o5⟩ := plain5 t2
  subst hlv htv
  obtain ⟨s0, s1, s2, s3, rfl, r0, r1, r2, r3⟩ := hg.val
  have hvals : vals = #[.agg #[s0, s1, s2, s3], .int .i64 loc, .agg #[.int .u32 ep, .int .i64 d, .int .u32 x, .int .u32 y, .int .u32 z]] := by
    apply Array.ext_getElem?
    intro i
    match i with
    | 0 => rw [g1]; rfl
    | 1 => rw [l1]; rfl
    | 2 => rw [t1]; rfl
    | i + 3 => rw [Array.getElem?_eq_none (by rw [hl]; simp), Array.getElem?_eq_none (by simp)]
  subst hvals
  have h45 : ∀ W', Below w.heap.size w W' → Calls Try.prog 45 #[.agg #[s0, s1, s2, s3], .int .i64 loc] W' fun e W2 => e = .returned (.tuple #[.int .i64 (scR g loc).1, .int .i64 (scR g loc).2.1, .int .i64 (scR g loc).2.2]) ∧ Below W'.heap.size W' W2 := by
    intro W' hb
    have hg' := hg.after hb
    refine (entry_res (args := [gA g, i64A loc]) (x := .tup [i64A (scR g loc).1, i64A (scR g loc).2.1, i64A (scR g loc).2.2]) rfl ?_ (fun {Q} hq => c45f g loc hq)).mono ?_
    · intro i a hi
      match i, hi with
      | 0, hi => simp at hi; subst hi; exact ⟨_, rfl, fun env rt => hg'.sv env rt⟩
      | 1, hi => simp at hi; subst hi; exact ⟨_, rfl, fun env rt => v_sv rfl env rt⟩
      | i + 2, hi => simp at hi
    · rintro e W2 ⟨⟨v, F', env', M', X, rfl, hres⟩, hb2⟩
      exact ⟨by rw [Res.tup3_eq hres], hb2⟩
  have h116 : ∀ W', Below w.heap.size w W' → Calls Try.prog 116 #[.agg #[.int .u32 ep, .int .i64 d, .int .u32 x, .int .u32 y, .int .u32 z]] W' fun e W2 => e = .returned (.int .i64 (chkT ep d x y z)) ∧ Below W'.heap.size W' W2 := by
    intro W' hb
    refine entry_below (args := [tmI ep d x y z]) rfl ?_ (fun {Q} hq => c116 ep d x y z hq)
    intro i a hi
    match i, hi with
    | 0, hi => 
      simp at hi; subst hi
      exact ⟨_, rfl, fun env rt => agg_sv (cs := [.int .u32 ep, .int .i64 d, .int .u32 x, .int .u32 y, .int .u32 z]) (by simp [Value.oneCell']) env rt⟩
    | i + 1, hi => simp at hi
  refine (callsIn_wide (n := 6)).1 ?_
  by_cases h2 : (scR g loc).2.2 = 0
  · by_cases h3 : chkT ep d x y z = 0
    · by_cases h4 : d = (scR g loc).2.1
      · have hc : chk g = 0 := by
          rcases Decidable.em (chk g = 0) with hc | hc
          · exact hc
          · rw [scR, if_pos hc] at h2; exact absurd h2 hc
        have hl' : ¬ (loc < 0 ∨ 2 * (g.op.length : Int) ≤ loc) := by
          intro hh
          rw [scR, if_neg (by simpa using hc), if_pos hh] at h2; cases h2
        have hF := chk0 hc
        obtain ⟨o, ho⟩ : ∃ o, g.op[(loc / 2).toNat]? = some o := ⟨_, List.getElem?_eq_getElem (by omega)⟩
        have hs : scL g loc = loopA g o (loc % 2).toNat := by simp only [scL, ho]
        have hin := loopA_in hF ho (loc % 2).toNat
        rw [← hs] at hin
        have hR : scR g loc = (scL g loc, deepN g.lo (scL g loc), 0) := by rw [scR, if_neg (by simpa using hc), if_neg hl']
        have hb := chkT0 h3
        have hfit : fitR g loc ep d x y z = fitN g.lo x y z d.toNat (scR g loc).1 := by
          simp only [fitR, h2, h3, ← h4, ne_eq, not_true_eq_false, if_false]
        obtain ⟨D, rfl⟩ : ∃ D : Nat, d = D := ⟨d.toNat, by omega⟩
        rw [hfit, Int.toNat_natCast, fitN_all]
        rw [← h4, h2] at h45
        rw [h3] at h116
        have hk := kAt_in hF.wf (k := (scR g loc).1) (D := D) (by rw [hR]; exact hin.2) (by rw [hR]; exact hin.1) (by rw [hR] at h4 ⊢; exact h4.symm)
        refine fits_ok 6 (by omega) (scR g loc).1 loc ep x y z D (by omega) g.lo s0 s1 s2 s3 w ?_ ?_ ?_ h45 h116
        · intro hD
          refine lo_cells r1 ?_
          intro hnil
          have := hk 0 (by omega)
          rw [hnil] at this
          have h0 := this.2.2
          rw [deepN_neg (by have := this.1; simp at this; omega)] at h0
          omega
        · intro j hj
          obtain ⟨a, b, c⟩ := hk j (by omega)
          rw [show D - j = (D - (j + 1)) + 1 from by omega] at c
          exact ⟨(deepN_up hF.wf a c).1, a⟩
        · intro i l hl
          exact (chk_lo hc i l hl).2
      · have : fitR g loc ep d x y z = false := by simp [fitR, h2, h3, h4]
        rw [this]
        exact fits_bad 6 (by omega) _ _ _ _ loc ep d x y z s0 s1 s2 s3 w (.inr (.inr ⟨h2, h3, h4⟩)) h45 h116
    · have : fitR g loc ep d x y z = false := by simp [fitR, h2, h3]
      rw [this]
      exact fits_bad 6 (by omega) _ _ _ _ loc ep d x y z s0 s1 s2 s3 w (.inr (.inl ⟨h2, h3⟩)) h45 h116
  · have : fitR g loc ep d x y z = false := by simp [fitR, h2]
    rw [this]
    exact fits_bad 6 (by omega) _ _ _ _ loc ep d x y z s0 s1 s2 s3 w (.inl h2) h45 h116
end Go.Proofs.Ythlehngbadianaa.Ow
