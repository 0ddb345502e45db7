/- What the functions of the program do, each once: contracts of the logic (part w7 w8). -/
import Derived.Test.YthlehngbadianaaDoorTw3w4w5
import Derived.Test.YthlehngbadianaaDoorTu6
import Derived.Test.YthlehngbadianaaDoorTw6
set_option linter.unusedVariables false
set_option linter.unusedSimpArgs false
set_option linter.unnecessarySimpa false
set_option maxRecDepth 100000
set_option maxHeartbeats 8000000
namespace Go.Proofs.YthlehngbadianaaDoor.Ow
open Go Go.RowKit Go.Proofs
/- watershed/table.Parse -/
def cc1006 : CC := (.seq (.region [⟨none, 3, (.box 1), [1], none, []⟩, ⟨none, 4, (.alloc (.agg #[(.slice none 0 0), (.slice none 0 0)])), [], none, []⟩, ⟨none, 5, (.val (.mv (.c (.int .i64 0)))), [5], none, []⟩, ⟨none, 6, (.val (.mv (.c (.int .i64 0)))), [6], none, []⟩]) (.seq (.seq (.region [⟨none, 14, (.val (.ld (.s 3) (some 4))), [], none, []⟩, ⟨none, 15, (.callP 23 [(.s 14)]), [14], none, []⟩, ⟨none, 7, (.val (.mv (.s 15))), [15], none, []⟩]) (.seq (.region [⟨none, 16, (.val (.mv (.s 7))), [], none, []⟩, ⟨none, 17, (.val (.bin .neq (.s 16) (.c (.int .i64 0)))), [16], none, []⟩]) (.cond (.s 17) (.seq (.region [⟨none, 18, (.val (.bld [(.slice none 0 0), (.slice none 0 0)] [])), [0, 3, 17], none, []⟩, ⟨none, 19, (.val (.mv (.s 7))), [7], none, []⟩, ⟨none, 0, (.store 2 (.s 4) (.s 18)), [18], none, [50]⟩, ⟨none, 5, (.val (.mv (.c (.int .i64 0)))), [], none, []⟩, ⟨none, 6, (.val (.mv (.s 19))), [19], none, []⟩]) .ret) .skip))) (.seq (.region [⟨none, 8, (.alloc (.agg #[(.slice none 0 0), (.slice none 0 0)])), [7, 17], none, []⟩]) (.seq (.seq (.region [⟨none, 20, (.val (.mv (.s 0))), [0], none, []⟩, ⟨none, 21, (.callP 24 [(.s 20)]), [20], none, []⟩, ⟨none, 22, (.val (.lnl (.s 21) 1)), [], none, []⟩, ⟨none, 23, (.val (.mv (.c (.int .i64 0)))), [], none, []⟩]) (.block 0 (.loop (.seq (.region [⟨none, 24, (.val (.bin .lss (.s 23) (.s 22))), [], none, []⟩]) (.seq (.cond (.s 24) .skip (.exit 0)) (.seq (.block 1 (.seq (.region [⟨none, 25, (.val (.mv (.s 23))), [24], none, []⟩, ⟨none, 26, (.val (.ia (.s 21) (.s 23) 1)), [], none, []⟩, ⟨none, 27, (.val (.ld (.s 26) none)), [26], none, []⟩, ⟨none, 9, (.val (.mv (.s 25))), [25], none, []⟩, ⟨none, 10, (.val (.mv (.s 27))), [27], none, []⟩]) (.seq (.region [⟨none, 28, (.val (.mv (.s 10))), [10], none, []⟩, ⟨none, 29, (.callP 25 [(.s 28)]), [28], none, []⟩, ⟨none, 11, (.val (.mv (.s 29))), [29], none, []⟩]) (.seq (.seq (.region [⟨none, 30, (.val (.mv (.s 11))), [], none, []⟩, ⟨none, 31, (.val (.lnl (.s 30) 1)), [30], none, []⟩, ⟨none, 32, (.val (.bin .eql (.s 31) (.c (.int .i64 0)))), [31], none, []⟩]) (.cond (.s 32) (.exit 1) .skip)) (.seq (.region [⟨none, 33, (.val (.ld (.s 3) (some 4))), [32], none, []⟩, ⟨none, 34, (.val (.mv (.s 11))), [11], none, []⟩, ⟨none, 35, (.call 26 [(.s 8), (.s 33), (.s 34)]), [33, 34], (some 0), [34]⟩, ⟨none, 12, (.val (.mv (.s 35))), [35], none, []⟩]) (.seq (.region [⟨none, 36, (.val (.mv (.s 12))), [], none, []⟩, ⟨none, 37, (.val (.bin .neq (.s 36) (.c (.int .i64 0)))), [36], none, []⟩]) (.cond (.s 37) (.seq (.region [⟨none, 38, (.val (.bld [(.slice none 0 0), (.slice none 0 0)] [])), [3, 8, 21, 22, 23, 37], none, []⟩, ⟨none, 39, (.val (.mv (.s 9))), [9], none, []⟩, ⟨none, 40, (.val (.bin .add (.s 39) (.c (.int .i64 1)))), [39], none, []⟩, ⟨none, 41, (.val (.mv (.s 12))), [12], none, []⟩, ⟨none, 0, (.store 2 (.s 4) (.s 38)), [38], none, [50]⟩, ⟨none, 5, (.val (.mv (.s 40))), [40], none, []⟩, ⟨none, 6, (.val (.mv (.s 41))), [41], none, []⟩]) .ret) .skip))))))) (.region [⟨none, 42, (.val (.bin .add (.s 23) (.c (.int .i64 1)))), [9, 11, 12, 23, 32, 37], none, []⟩, ⟨none, 23, (.val (.mv (.s 42))), [42], none, []⟩]))))))) (.seq (.seq (.region [⟨none, 43, (.val (.ld (.s 8) (some 2))), [21, 22, 23, 24], none, []⟩, ⟨none, 44, (.val (.ld (.s 3) (some 4))), [3], none, []⟩, ⟨none, 45, (.callP 27 [(.s 43), (.s 44)]), [43, 44], none, []⟩, ⟨none, 13, (.val (.mv (.s 45))), [45], none, []⟩]) (.seq (.region [⟨none, 46, (.val (.mv (.s 13))), [], none, []⟩, ⟨none, 47, (.val (.bin .neq (.s 46) (.c (.int .i64 0)))), [46], none, []⟩]) (.cond (.s 47) (.seq (.region [⟨none, 48, (.val (.bld [(.slice none 0 0), (.slice none 0 0)] [])), [8, 47], none, []⟩, ⟨none, 49, (.val (.mv (.s 13))), [13], none, []⟩, ⟨none, 0, (.store 2 (.s 4) (.s 48)), [48], none, [50]⟩, ⟨none, 5, (.val (.mv (.c (.int .i64 0)))), [], none, []⟩, ⟨none, 6, (.val (.mv (.s 49))), [49], none, []⟩]) .ret) .skip))) (.seq (.region [⟨none, 50, (.val (.ld (.s 8) (some 2))), [8, 13, 47], none, []⟩, ⟨none, 0, (.store 2 (.s 4) (.s 50)), [50], none, [50]⟩, ⟨none, 5, (.val (.mv (.c (.int .i64 0)))), [], none, []⟩, ⟨none, 6, (.val (.mv (.c (.int .i64 0)))), [], none, []⟩]) .ret))))))
theorem ok1006 : FnOk Tryd.prog 12 cc1006 [(.c 4 40 (some 2)), (.t 5), (.t 6)] 2 51 := ⟨⟨_, Tryd.func12, by kernel_rfl, by kernel_rfl, by kernel_rfl⟩, by decide, by decide⟩
def wordsW (l : List UInt8) : List ByteArray := (wordsL l).map fun x => ⟨x.toArray⟩
theorem wordsW_A (l : List UInt8) : strsA (wordsL l) = (wordsW l).map nmA := by rw [wordsW, List.map_map]; rfl
theorem wordsW_len (l : List UInt8) : (wordsW l).length = (wordsL l).length := by simp [wordsW]
/-- The lines of a plan's text, one after the other. -/
def foldM (g : Gr) : List (List UInt8) → Nat → Pn → Pn × Int × Int
  | [], n, p => (p, 0, 0)
  | l :: ls, n, p => match wordsW l with
    | [] => foldM g ls (n + 1) p
    | k :: v => if (lineM p g (k :: v)).1 ≠ 0 then (⟨[], []⟩, ((n + 1 : Nat) : Int), (lineM p g (k :: v)).1) else foldM g ls (n + 1) (lineM p g (k :: v)).2
/-- The plan of a text. -/
def parR (g : Gr) (S : List UInt8) : Pn × Int × Int :=
  if chk g ≠ 0 then (⟨[], []⟩, 0, chk g) else if (foldM g (linesL S) 0 ⟨[], []⟩).2.2 ≠ 0 then (⟨[], []⟩, (foldM g (linesL S) 0 ⟨[], []⟩).2) else if chkP (foldM g (linesL S) 0 ⟨[], []⟩).1 g ≠ 0 then (⟨[], []⟩, 0, chkP (foldM g (linesL S) 0 ⟨[], []⟩).1 g) else ((foldM g (linesL S) 0 ⟨[], []⟩).1, 0, 0)
/-! How great a plan that is read may be. -/
structure PBd (n B : Nat) (p : Pn) : Prop where
  re : p.re.length ≤ n
  rt : p.rt.length ≤ n
  nm : ∀ s ∈ p.re, s.size ≤ B
  via : ∀ r ∈ p.rt, r.via.length ≤ B
theorem PBd.med {n B : Nat} {p : Pn} (h : PBd n B p) (hn : n ≤ 100000) (hB : B ≤ 100000) : MedP p :=
  ⟨by have := h.re; omega, by have := h.rt; omega, fun i s hs => by have := h.nm s (List.mem_of_getElem? hs); omega, fun i r hr => by have := h.via r (List.mem_of_getElem? hr); omega⟩
theorem viaR_len (re : List ByteArray) : ∀ (l : List ByteArray) (acc : List Int), (viaR re l acc).2.length ≤ acc.length + l.length
  | [], acc => by simp [viaR]
  | n :: ns, acc => by
    rw [viaR]
    split
    · simp
    · have := viaR_len re ns (acc ++ [idxP re (eqB n)])
      simp at this ⊢; omega
theorem PBd.up {n B : Nat} {p : Pn} (h : PBd n B p) : PBd (n + 1) B p := ⟨by have := h.re; omega, by have := h.rt; omega, h.nm, h.via⟩
theorem rrM_bd {n B : Nat} {p : Pn} {g : Gr} {w : List ByteArray} (h : PBd n B p) (hw : w.length ≤ B) : PBd (n + 1) B (rrM p g w).2 := by
  unfold rrM
  split
  · rename_i a b c r
    split
    · exact h.up
    split
    · exact h.up
    split
    · exact h.up
    refine ⟨by have := h.re; simp only; omega, by have := h.rt; simp; omega, h.nm, fun r' hr => ?_⟩
    rcases List.mem_append.1 hr with hr | hr
    · exact h.via r' hr
    · simp only [List.mem_singleton] at hr
      subst hr
      have := viaR_len p.re r []
      simp at this hw ⊢; omega
  · exact h.up
theorem relM_bd {n B : Nat} {p : Pn} {w : List ByteArray} (h : PBd n B p) (hs : ∀ s ∈ w, s.size ≤ B) : PBd (n + 1) B (relM p w).2 := by
  unfold relM
  split
  · rename_i x
    refine ⟨by have := h.re; simp; omega, by have := h.rt; simp only; omega, fun s hss => ?_, h.via⟩
    rcases List.mem_append.1 hss with hss | hss
    · exact h.nm s hss
    · simp only [List.mem_singleton] at hss; subst hss; exact hs _ (List.mem_cons_self ..)
  · exact h.up
theorem lineM_bd {n B : Nat} {p : Pn} {g : Gr} {k : ByteArray} {v : List ByteArray} (h : PBd n B p) (hw : v.length ≤ B) (hs : ∀ s ∈ v, s.size ≤ B) : PBd (n + 1) B (lineM p g (k :: v)).2 := by
  rw [lineM]
  split
  · exact rrM_bd h hw
  split
  · exact h.up
  · exact relM_bd h hs
theorem pcs_sub : ∀ {ps : List (List UInt8)}, (∀ p ∈ pcs ps, p ∈ ps) ∧ (pcs ps).length ≤ ps.length
  | [] => ⟨by simp [pcs], by simp [pcs]⟩
  | q :: ps => by
    obtain ⟨h1, h2⟩ := @pcs_sub ps
    rw [pcs]
    split
    · exact ⟨by simp, by simp⟩
    split
    · exact ⟨fun p hp => List.mem_cons_of_mem _ (h1 p hp), by simp; omega⟩
    · refine ⟨fun p hp => ?_, by simp; omega⟩
      rcases List.mem_cons.1 hp with rfl | hp
      · exact List.mem_cons_self ..
      · exact List.mem_cons_of_mem _ (h1 p hp)
theorem wordsW_sz {l : List UInt8} {B : Nat} (h : l.length + 1 ≤ B) : (wordsW l).length ≤ B ∧ ∀ s ∈ wordsW l, s.size ≤ B := by
  obtain ⟨h1, h2⟩ := @pcs_sub (cutL 32 l)
  have h3 := cutL_len 32 l
  refine ⟨by rw [wordsW_len, wordsL]; omega, fun s hs => ?_⟩
  obtain ⟨x, hx, rfl⟩ := List.mem_map.1 hs
  have := cutL_sz (h1 x hx)
  rw [ba_size]; omega
theorem linesL_sz : ∀ {S l : List UInt8}, l ∈ linesL S → l.length ≤ S.length
  | [], l, h => by simp [linesL] at h
  | b :: S, l, h => by
    rw [linesL] at h
    split at h
    · rcases List.mem_cons.1 h with rfl | h
      · simp
      · have := linesL_sz h; simp; omega
    · split at h
      · simp at h; subst h; simp
      · rename_i x xs hx
        rcases List.mem_cons.1 h with rfl | h
        · have := linesL_sz (S := S) (l := x) (by rw [hx]; exact List.mem_cons_self ..)
          simp; omega
        · have := linesL_sz (S := S) (l := l) (by rw [hx]; exact List.mem_cons_of_mem _ h)
          simp; omega
theorem linesL_len : ∀ S : List UInt8, (linesL S).length ≤ S.length
  | [] => by simp [linesL]
  | b :: S => by
    have := linesL_len S
    rw [linesL]
    split
    · simp; omega
    · split
      · simp
      · rename_i x xs hx
        rw [hx] at this
        simp at this ⊢; omega
theorem nilP_le (x y : AV) : AVleR (.tup [.agg [.v (.slice none 0 0), .v (.slice none 0 0)], x, y]) (.tup [plA ⟨[], []⟩, x, y]) := by
  refine .inr ⟨_, _, rfl, rfl, rfl, fun i c d hc hd => ?_⟩
  match i with
  | 0 =>
    simp at hc hd; subst hc hd
    exact .agg (.cons .nl (.cons .nl .nil))
  | 1 => simp at hc hd; subst hc hd; exact AVle.refl _
  | 2 => simp at hc hd; subst hc hd; exact AVle.refl _
  | i + 3 => simp at hc
def st1006 (I : World → Fp → Value → Fp → Prop) (g : Gr) (L : List (List UInt8)) : Pn × Nat → St
  | (p, i) => ⟨[(23, .v (.int .i64 i)), (22, .v (.int .i64 L.length)), (21, .lst 1 (strsA L)), (3, .ref ⟨1003, [], 0⟩), (4, .ref ⟨1004, [], 0⟩), (8, .ref ⟨1008, [], 0⟩)], [(1008, plO p), (1004, .agg [.v (.slice none 0 0), .v (.slice none 0 0)]), (1003, gA g), (9999, .ext I)], []⟩
theorem c1006 (S : List UInt8) (g : Gr) (hS : S.length ≤ 5000) {Q : AV → Al → Prop} (h : Q (.tup [plA (parR g S).1, i64A (parR g S).2.1, i64A (parR g S).2.2]) []) : ACalls Tryd.prog 12 [] [strV S, gA g] Q := by
  apply ACalls.weakQ
  have bad : ∀ x y : Int, parR g S = (⟨[], []⟩, x, y) → ∃ r', AVleR (.tup [.agg [.v (.slice none 0 0), .v (.slice none 0 0)], .v (.int .i64 x), .v (.int .i64 y)]) r' ∧ Q r' [] := fun x y e => ⟨_, nilP_le _ _, by rw [e] at h; exact h⟩
  have good : ∀ p : Pn, parR g S = (p, 0, 0) → ∃ r', AVleR (.tup [plA p, .v (.int .i64 0), .v (.int .i64 0)]) r' ∧ Q r' [] := fun p e => ⟨_, .inl (AVle.refl _), by rw [e] at h; exact h⟩
  clear h
  refine ok1006.N hmix rfl ?_
  intro I
  simp only [cc1006, OI, ↓reduceIte, reduceCtorEq, Nat.reduceAdd, Nat.reduceEqDiff, Nat.reduceBEq, Nat.reduceLT, Nat.reduceLeDiff, Nat.reduceMul, Nat.reduceSub, Int.reduceLE, Int.reduceLT, Int.reduceEq, Int.reduceBEq, Int.reduceBNe, Int.reduceToNat, Int.reduceNeg, Nat.reduceBNe, gA, strV, i64A]
  refine c65 g ?_
  by_cases hc : chk g = 0
  · have hF := chk0 hc
    have h4 := hF.cl4
    rw [parR, if_neg (by simpa using hc)] at bad good
    simp only [OI, ↓reduceIte, reduceCtorEq, Nat.reduceAdd, Nat.reduceEqDiff, Nat.reduceBEq, Nat.reduceLT, Nat.reduceLeDiff, Nat.reduceMul, Nat.reduceSub, Int.reduceLE, Int.reduceLT, Int.reduceEq, Int.reduceBEq, Int.reduceBNe, Int.reduceToNat, Int.reduceNeg, Nat.reduceBNe, i64A, bneF hc]
    refine c1012 S (by omega) ?_
    have hll := linesL_len S
    have hls : ∀ l ∈ linesL S, l.length ≤ S.length := fun l hl => linesL_sz hl
    generalize hL : linesL S = L at bad good hll hls
    simp only [OI, ↓reduceIte, reduceCtorEq, Nat.reduceAdd, Nat.reduceEqDiff, Nat.reduceBEq, Nat.reduceLT, Nat.reduceLeDiff, Nat.reduceMul, Nat.reduceSub, Int.reduceLE, Int.reduceLT, Int.reduceEq, Int.reduceBEq, Int.reduceBNe, Int.reduceToNat, Int.reduceNeg, Nat.reduceBNe, strsA_len]
    refine W_nilT 1008 [.own 1 [], .own 3 []] rfl (.own (by decide) (.own (by decide) .nil)) ?_
    refine W_loop (st1006 I g L) (fun x => x.2 ≤ L.length ∧ PBd x.2 5001 x.1 ∧ foldM g L 0 ⟨[], []⟩ = foldM g (L.drop x.2) x.2 x.1) (fun x => L.length - x.2) (fun _ _ => rfl) ⟨(⟨[], []⟩, 0), ⟨by simp, ⟨by simp, by simp, by simp, by simp⟩, by simp⟩, ?_⟩ ?_
    · simp only [OI, ↓reduceIte, reduceCtorEq, Nat.reduceAdd, Nat.reduceEqDiff, Nat.reduceBEq, Nat.reduceLT, Nat.reduceLeDiff, Nat.reduceMul, Nat.reduceSub, Int.reduceLE, Int.reduceLT, Int.reduceEq, Int.reduceBEq, Int.reduceBNe, Int.reduceToNat, Int.reduceNeg, Nat.reduceBNe, st1006, plO, gA, List.map_nil]
      try rfl
    rintro ⟨p, i⟩ ⟨hi, hb, hf⟩
    simp only at hi hb hf
    refine W_of_N ok1006.small hmix ?_
    by_cases hil : i < L.length
    · have hil' : (i : Int) < L.length := by omega
      have i0 : (0 : Int) ≤ i := by omega
      obtain ⟨l, hgl⟩ : ∃ l, L[i]? = some l := ⟨_, List.getElem?_eq_getElem hil⟩
      have hlsz := hls l (List.mem_of_getElem? hgl)
      have w1 : IntKind.i64.wrap ((i : Int) + 1) = ((i + 1 : Nat) : Int) := by rw [wrI64 (by omega) (by omega)]; omega
      rw [drop_cons' hgl, foldM] at hf
      simp only [OI, ↓reduceIte, reduceCtorEq, Nat.reduceAdd, Nat.reduceEqDiff, Nat.reduceBEq, Nat.reduceLT, Nat.reduceLeDiff, Nat.reduceMul, Nat.reduceSub, Int.reduceLE, Int.reduceLT, Int.reduceEq, Int.reduceBEq, Int.reduceBNe, Int.reduceToNat, Int.reduceNeg, Nat.reduceBNe, st1006, plO, gA, hil', i0, strsA_len, strsA_get, hgl, strV]
      refine c1013 l (by omega) ?_
      rw [wordsW_A]
      obtain ⟨hwl, hws⟩ := wordsW_sz (l := l) (B := 5001) (by omega)
      cases hw : wordsW l with
      | nil =>
        rw [hw] at hf
        simp only at hf
        simp only [OI, ↓reduceIte, reduceCtorEq, Nat.reduceAdd, Nat.reduceEqDiff, Nat.reduceBEq, Nat.reduceLT, Nat.reduceLeDiff, Nat.reduceMul, Nat.reduceSub, Int.reduceLE, Int.reduceLT, Int.reduceEq, Int.reduceBEq, Int.reduceBNe, Int.reduceToNat, Int.reduceNeg, Nat.reduceBNe, plO, gA, w1]
        refine ⟨(p, i + 1), ⟨⟨by simp only; omega, hb.up, hf⟩, by simp only; omega⟩, ?_⟩
        simp only [OI, ↓reduceIte, reduceCtorEq, Nat.reduceAdd, Nat.reduceEqDiff, Nat.reduceBEq, Nat.reduceLT, Nat.reduceLeDiff, Nat.reduceMul, Nat.reduceSub, Int.reduceLE, Int.reduceLT, Int.reduceEq, Int.reduceBEq, Int.reduceBNe, Int.reduceToNat, Int.reduceNeg, Nat.reduceBNe, st1006, plO, gA]
        try rfl
      | cons k v =>
        rw [hw] at hf hwl hws
        simp only at hf
        simp only [List.length_cons] at hwl
        have hvl : v.length ≤ 5001 := by omega
        have hbr := hb.re
        have hbt := hb.rt
        have tw : List.map frz (List.take v.length (List.map nmA v)) = List.map nmA v := fz_map nmA (fun _ => rfl) rfl
        have tk : frz (nmA k) = nmA k := rfl
        have tl : (List.take v.length (List.map nmA v)).length = v.length := by simp
        have hne : (((v.length + 1 : Nat) : Int) == 0) = false := by rw [beq_eq_false_iff_ne]; omega
        simp only [OI, ↓reduceIte, reduceCtorEq, Nat.reduceAdd, Nat.reduceEqDiff, Nat.reduceBEq, Nat.reduceLT, Nat.reduceLeDiff, Nat.reduceMul, Nat.reduceSub, Int.reduceLE, Int.reduceLT, Int.reduceEq, Int.reduceBEq, Int.reduceBNe, Int.reduceToNat, Int.reduceNeg, Nat.reduceBNe, N_fzG, plO, gA, w1, tw, tk, tl, hne]
        refine c1014 p g k v (by omega) (by omega) (by omega) (by omega) ?_
        have hb2 := lineM_bd (g := g) (k := k) hb hvl (fun s hs => hws s (List.mem_cons_of_mem _ hs))
        by_cases he : (lineM p g (k :: v)).1 = 0
        · rw [if_neg (by simpa using he)] at hf
          simp only [OI, ↓reduceIte, reduceCtorEq, Nat.reduceAdd, Nat.reduceEqDiff, Nat.reduceBEq, Nat.reduceLT, Nat.reduceLeDiff, Nat.reduceMul, Nat.reduceSub, Int.reduceLE, Int.reduceLT, Int.reduceEq, Int.reduceBEq, Int.reduceBNe, Int.reduceToNat, Int.reduceNeg, Nat.reduceBNe, plO, gA, i64A, bneF he, w1]
          refine ⟨((lineM p g (k :: v)).2, i + 1), ⟨⟨by simp only; omega, hb2, hf⟩, by simp only; omega⟩, ?_⟩
          simp only [OI, ↓reduceIte, reduceCtorEq, Nat.reduceAdd, Nat.reduceEqDiff, Nat.reduceBEq, Nat.reduceLT, Nat.reduceLeDiff, Nat.reduceMul, Nat.reduceSub, Int.reduceLE, Int.reduceLT, Int.reduceEq, Int.reduceBEq, Int.reduceBNe, Int.reduceToNat, Int.reduceNeg, Nat.reduceBNe, st1006, plO, gA]
          try rfl
        · rw [if_pos he] at hf
          simp only [OI, ↓reduceIte, reduceCtorEq, Nat.reduceAdd, Nat.reduceEqDiff, Nat.reduceBEq, Nat.reduceLT, Nat.reduceLeDiff, Nat.reduceMul, Nat.reduceSub, Int.reduceLE, Int.reduceLT, Int.reduceEq, Int.reduceBEq, Int.reduceBNe, Int.reduceToNat, Int.reduceNeg, Nat.reduceBNe, N_fzG, plO, gA, i64A, bneT he, w1]
          refine bad _ _ ?_
          rw [hf, if_pos he]
    · obtain rfl : i = L.length := by omega
      rw [List.drop_length, foldM] at hf
      rw [hf, if_neg (by simp)] at bad good
      simp only at bad good
      have t1 : List.map frz (List.take p.re.length (List.map nmA p.re)) = List.map nmA p.re := fz_map nmA (fun _ => rfl) rfl
      have t2 : List.map frz (List.take p.rt.length (List.map rtA p.rt)) = List.map rtA p.rt := fz_map rtA (fun _ => rfl) rfl
      simp only [OI, ↓reduceIte, reduceCtorEq, Nat.reduceAdd, Nat.reduceEqDiff, Nat.reduceBEq, Nat.reduceLT, Nat.reduceLeDiff, Nat.reduceMul, Nat.reduceSub, Int.reduceLE, Int.reduceLT, Int.reduceEq, Int.reduceBEq, Int.reduceBNe, Int.reduceToNat, Int.reduceNeg, Nat.reduceBNe, st1006, plO, gA, Int.lt_irrefl, t1, t2]
      refine c73m p g (hb.med (by omega) (by omega)) ?_
      by_cases hk : chkP p g = 0
      · rw [if_neg (by simpa using hk)] at good
        simp only [OI, ↓reduceIte, reduceCtorEq, Nat.reduceAdd, Nat.reduceEqDiff, Nat.reduceBEq, Nat.reduceLT, Nat.reduceLeDiff, Nat.reduceMul, Nat.reduceSub, Int.reduceLE, Int.reduceLT, Int.reduceEq, Int.reduceBEq, Int.reduceBNe, Int.reduceToNat, Int.reduceNeg, Nat.reduceBNe, N_fzG, plO, gA, i64A, bneF hk, t1, t2]
        exact good p rfl
      · rw [if_pos hk] at bad
        simp only [OI, ↓reduceIte, reduceCtorEq, Nat.reduceAdd, Nat.reduceEqDiff, Nat.reduceBEq, Nat.reduceLT, Nat.reduceLeDiff, Nat.reduceMul, Nat.reduceSub, Int.reduceLE, Int.reduceLT, Int.reduceEq, Int.reduceBEq, Int.reduceBNe, Int.reduceToNat, Int.reduceNeg, Nat.reduceBNe, N_fzG, plO, gA, i64A, bneT hk, t1, t2]
        exact bad _ _ rfl
  · rw [parR, if_pos hc] at bad good
    simp only [OI, ↓reduceIte, reduceCtorEq, Nat.reduceAdd, Nat.reduceEqDiff, Nat.reduceBEq, Nat.reduceLT, Nat.reduceLeDiff, Nat.reduceMul, Nat.reduceSub, Int.reduceLE, Int.reduceLT, Int.reduceEq, Int.reduceBEq, Int.reduceBNe, Int.reduceToNat, Int.reduceNeg, Nat.reduceBNe, N_fzG, i64A, bneT hc]
    exact bad _ _ rfl
end Go.Proofs.YthlehngbadianaaDoor.Ow
set_option maxRecDepth 100000
set_option maxHeartbeats 8000000
namespace Go.Proofs.YthlehngbadianaaDoor.Ow
open Go Go.RowKit Go.Proofs
/- watershed/watershedref18.Parse -/
def cc1007 : CC := (.seq (.region [⟨none, 3, (.box 1), [1], none, []⟩, ⟨none, 4, (.alloc (.agg #[(.slice none 0 0), (.slice none 0 0)])), [], none, []⟩, ⟨none, 5, (.val (.mv (.c (.int .i64 0)))), [5], none, []⟩, ⟨none, 6, (.val (.mv (.c (.int .i64 0)))), [6], none, []⟩]) (.seq (.region [⟨none, 13, (.val (.ld (.s 3) (some 4))), [], none, []⟩, ⟨none, 14, (.callP 28 [(.s 13)]), [13], none, []⟩, ⟨none, 7, (.val (.mv (.s 14))), [14], none, []⟩]) (.seq (.seq (.region [⟨none, 15, (.val (.mv (.s 7))), [], none, []⟩, ⟨none, 16, (.val (.bin .neq (.s 15) (.c (.int .i64 0)))), [15], none, []⟩]) (.cond (.s 16) (.seq (.region [⟨none, 17, (.val (.bld [(.slice none 0 0), (.slice none 0 0)] [])), [0, 3, 16], none, []⟩, ⟨none, 18, (.val (.mv (.s 7))), [7], none, []⟩, ⟨none, 0, (.store 2 (.s 4) (.s 17)), [17], none, [51]⟩, ⟨none, 5, (.val (.mv (.c (.int .i64 0)))), [], none, []⟩, ⟨none, 6, (.val (.mv (.s 18))), [18], none, []⟩]) .ret) .skip)) (.seq (.region [⟨none, 8, (.alloc (.agg #[(.slice none 0 0), (.slice none 0 0)])), [7, 16], none, []⟩]) (.seq (.region [⟨none, 19, (.val (.mv (.s 0))), [0], none, []⟩, ⟨none, 20, (.callP 29 [(.s 19)]), [19], none, []⟩, ⟨none, 9, (.val (.mv (.s 20))), [20], none, []⟩]) (.seq (.seq (.region [⟨none, 10, (.val (.mv (.c (.int .i64 0)))), [], none, []⟩]) (.block 0 (.loop (.seq (.seq (.region [⟨none, 21, (.val (.mv (.s 10))), [], none, []⟩, ⟨none, 22, (.val (.mv (.s 9))), [], none, []⟩, ⟨none, 23, (.val (.lnl (.s 22) 1)), [22], none, []⟩, ⟨none, 24, (.val (.bin .lss (.s 21) (.s 23))), [21, 23], none, []⟩]) (.cond (.s 24) .skip (.exit 0))) (.seq (.block 1 (.seq (.region [⟨none, 27, (.val (.mv (.s 9))), [24], none, []⟩, ⟨none, 28, (.val (.mv (.s 10))), [], none, []⟩, ⟨none, 29, (.val (.ia (.s 27) (.s 28) 1)), [27, 28], none, []⟩, ⟨none, 30, (.val (.ld (.s 29) none)), [29], none, []⟩, ⟨none, 31, (.callP 30 [(.s 30)]), [30], none, []⟩, ⟨none, 11, (.val (.mv (.s 31))), [31], none, []⟩]) (.seq (.seq (.region [⟨none, 32, (.val (.mv (.s 11))), [], none, []⟩, ⟨none, 33, (.val (.lnl (.s 32) 1)), [32], none, []⟩, ⟨none, 34, (.val (.bin .eql (.s 33) (.c (.int .i64 0)))), [33], none, []⟩]) (.cond (.s 34) (.exit 1) .skip)) (.seq (.region [⟨none, 35, (.val (.ld (.s 3) (some 4))), [34], none, []⟩, ⟨none, 36, (.val (.mv (.s 11))), [11], none, []⟩, ⟨none, 37, (.call 31 [(.s 8), (.s 35), (.s 36)]), [35, 36], (some 0), [36]⟩, ⟨none, 12, (.val (.mv (.s 37))), [37], none, []⟩]) (.seq (.region [⟨none, 38, (.val (.mv (.s 12))), [], none, []⟩, ⟨none, 39, (.val (.bin .neq (.s 38) (.c (.int .i64 0)))), [38], none, []⟩]) (.cond (.s 39) (.seq (.region [⟨none, 40, (.val (.bld [(.slice none 0 0), (.slice none 0 0)] [])), [3, 8, 9, 39], none, []⟩, ⟨none, 41, (.val (.mv (.s 10))), [10], none, []⟩, ⟨none, 42, (.val (.bin .add (.s 41) (.c (.int .i64 1)))), [41], none, []⟩, ⟨none, 43, (.val (.mv (.s 12))), [12], none, []⟩, ⟨none, 0, (.store 2 (.s 4) (.s 40)), [40], none, [51]⟩, ⟨none, 5, (.val (.mv (.s 42))), [42], none, []⟩, ⟨none, 6, (.val (.mv (.s 43))), [43], none, []⟩]) .ret) .skip)))))) (.region [⟨none, 25, (.val (.mv (.s 10))), [10, 11, 12, 34, 39], none, []⟩, ⟨none, 26, (.val (.bin .add (.s 25) (.c (.int .i64 1)))), [25], none, []⟩, ⟨none, 10, (.val (.mv (.s 26))), [26], none, []⟩])))))) (.seq (.region [⟨none, 44, (.val (.ld (.s 8) (some 2))), [9, 10, 24], none, []⟩, ⟨none, 45, (.val (.ld (.s 3) (some 4))), [3], none, []⟩, ⟨none, 46, (.callP 32 [(.s 44), (.s 45)]), [44, 45], none, []⟩, ⟨none, 7, (.val (.mv (.s 46))), [46], none, []⟩]) (.seq (.seq (.region [⟨none, 47, (.val (.mv (.s 7))), [], none, []⟩, ⟨none, 48, (.val (.bin .neq (.s 47) (.c (.int .i64 0)))), [47], none, []⟩]) (.cond (.s 48) (.seq (.region [⟨none, 49, (.val (.bld [(.slice none 0 0), (.slice none 0 0)] [])), [8, 48], none, []⟩, ⟨none, 50, (.val (.mv (.s 7))), [7], none, []⟩, ⟨none, 0, (.store 2 (.s 4) (.s 49)), [49], none, [51]⟩, ⟨none, 5, (.val (.mv (.c (.int .i64 0)))), [], none, []⟩, ⟨none, 6, (.val (.mv (.s 50))), [50], none, []⟩]) .ret) .skip)) (.seq (.region [⟨none, 51, (.val (.ld (.s 8) (some 2))), [7, 8, 48], none, []⟩, ⟨none, 0, (.store 2 (.s 4) (.s 51)), [51], none, [51]⟩, ⟨none, 5, (.val (.mv (.c (.int .i64 0)))), [], none, []⟩, ⟨none, 6, (.val (.mv (.c (.int .i64 0)))), [], none, []⟩]) .ret)))))))))
theorem ok1007 : FnOk Tryd.prog 14 cc1007 [(.c 4 52 (some 2)), (.t 5), (.t 6)] 2 52 := ⟨⟨_, Tryd.func14, by kernel_rfl, by kernel_rfl, by kernel_rfl⟩, by decide, by decide⟩
def st1007 (I : World → Fp → Value → Fp → Prop) (g : Gr) (L : List (List UInt8)) : Pn × Nat → St
  | (p, i) => ⟨[(10, .v (.int .i64 i)), (9, .sl ⟨2020, [], 0⟩ 1 0 L.length), (3, .ref ⟨1003, [], 0⟩), (4, .ref ⟨1004, [], 0⟩), (8, .ref ⟨1008, [], 0⟩)], [(2020, .own 1 (strsA L)), (1008, plO p), (1004, .agg [.v (.slice none 0 0), .v (.slice none 0 0)]), (1003, gA g), (9999, .ext I)], []⟩
theorem c1007 (S : List UInt8) (g : Gr) (hs : NmOk g) (hS : S.length ≤ 5000) {Q : AV → Al → Prop} (h : Q (.tup [plA (parR g S).1, i64A (parR g S).2.1, i64A (parR g S).2.2]) []) : ACalls Tryd.prog 14 [] [strV S, gA g] Q := by
  apply ACalls.weakQ
  have bad : ∀ x y : Int, parR g S = (⟨[], []⟩, x, y) → ∃ r', AVleR (.tup [.agg [.v (.slice none 0 0), .v (.slice none 0 0)], .v (.int .i64 x), .v (.int .i64 y)]) r' ∧ Q r' [] := fun x y e => ⟨_, nilP_le _ _, by rw [e] at h; exact h⟩
  have good : ∀ p : Pn, parR g S = (p, 0, 0) → ∃ r', AVleR (.tup [plA p, .v (.int .i64 0), .v (.int .i64 0)]) r' ∧ Q r' [] := fun p e => ⟨_, .inl (AVle.refl _), by rw [e] at h; exact h⟩
  clear h
  refine ok1007.N hmix rfl ?_
  intro I
  simp only [cc1007, OI, ↓reduceIte, reduceCtorEq, Nat.reduceAdd, Nat.reduceEqDiff, Nat.reduceBEq, Nat.reduceLT, Nat.reduceLeDiff, Nat.reduceMul, Nat.reduceSub, Int.reduceLE, Int.reduceLT, Int.reduceEq, Int.reduceBEq, Int.reduceBNe, Int.reduceToNat, Int.reduceNeg, Nat.reduceBNe, gA, strV, i64A]
  refine c66 g hs ?_
  by_cases hc : chk g = 0
  · have hF := chk0 hc
    have h4 := hF.cl4
    rw [parR, if_neg (by simpa using hc)] at bad good
    simp only [OI, ↓reduceIte, reduceCtorEq, Nat.reduceAdd, Nat.reduceEqDiff, Nat.reduceBEq, Nat.reduceLT, Nat.reduceLeDiff, Nat.reduceMul, Nat.reduceSub, Int.reduceLE, Int.reduceLT, Int.reduceEq, Int.reduceBEq, Int.reduceBNe, Int.reduceToNat, Int.reduceNeg, Nat.reduceBNe, i64A, bneF hc]
    refine c1015 S (by omega) ?_
    have hll := linesL_len S
    have hls : ∀ l ∈ linesL S, l.length ≤ S.length := fun l hl => linesL_sz hl
    generalize hL : linesL S = L at bad good hll hls
    simp only [OI, ↓reduceIte, reduceCtorEq, Nat.reduceAdd, Nat.reduceEqDiff, Nat.reduceBEq, Nat.reduceLT, Nat.reduceLeDiff, Nat.reduceMul, Nat.reduceSub, Int.reduceLE, Int.reduceLT, Int.reduceEq, Int.reduceBEq, Int.reduceBNe, Int.reduceToNat, Int.reduceNeg, Nat.reduceBNe, strsA_len]
    refine W_nilT 1008 [.own 1 [], .own 3 []] rfl (.own (by decide) (.own (by decide) .nil)) ?_
    refine W_loop (st1007 I g L) (fun x => x.2 ≤ L.length ∧ PBd x.2 5001 x.1 ∧ foldM g L 0 ⟨[], []⟩ = foldM g (L.drop x.2) x.2 x.1) (fun x => L.length - x.2) (fun _ _ => rfl) ⟨(⟨[], []⟩, 0), ⟨by simp, ⟨by simp, by simp, by simp, by simp⟩, by simp⟩, ?_⟩ ?_
    · simp only [OI, ↓reduceIte, reduceCtorEq, Nat.reduceAdd, Nat.reduceEqDiff, Nat.reduceBEq, Nat.reduceLT, Nat.reduceLeDiff, Nat.reduceMul, Nat.reduceSub, Int.reduceLE, Int.reduceLT, Int.reduceEq, Int.reduceBEq, Int.reduceBNe, Int.reduceToNat, Int.reduceNeg, Nat.reduceBNe, st1007, plO, gA, List.map_nil]
      try rfl
    have ttk : List.take L.length (strsA L) = strsA L := List.take_of_length_le (by simp [strsA])
    rintro ⟨p, i⟩ ⟨hi, hb, hf⟩
    simp only at hi hb hf
    refine W_of_N ok1007.small hmix ?_
    by_cases hil : i < L.length
    · have hil' : (i : Int) < L.length := by omega
      have i0 : (0 : Int) ≤ i := by omega
      obtain ⟨l, hgl⟩ : ∃ l, L[i]? = some l := ⟨_, List.getElem?_eq_getElem hil⟩
      have hlsz := hls l (List.mem_of_getElem? hgl)
      have w1 : IntKind.i64.wrap ((i : Int) + 1) = ((i + 1 : Nat) : Int) := by rw [wrI64 (by omega) (by omega)]; omega
      rw [drop_cons' hgl, foldM] at hf
      simp only [OI, ↓reduceIte, reduceCtorEq, Nat.reduceAdd, Nat.reduceEqDiff, Nat.reduceBEq, Nat.reduceLT, Nat.reduceLeDiff, Nat.reduceMul, Nat.reduceSub, Int.reduceLE, Int.reduceLT, Int.reduceEq, Int.reduceBEq, Int.reduceBNe, Int.reduceToNat, Int.reduceNeg, Nat.reduceBNe, st1007, plO, gA, hil', i0, strsA_len, strsA_get, hgl, strV, ttk]
      refine c1016 l (by omega) ?_
      rw [wordsW_A]
      obtain ⟨hwl, hws⟩ := wordsW_sz (l := l) (B := 5001) (by omega)
      cases hw : wordsW l with
      | nil =>
        rw [hw] at hf
        simp only at hf
        simp only [OI, ↓reduceIte, reduceCtorEq, Nat.reduceAdd, Nat.reduceEqDiff, Nat.reduceBEq, Nat.reduceLT, Nat.reduceLeDiff, Nat.reduceMul, Nat.reduceSub, Int.reduceLE, Int.reduceLT, Int.reduceEq, Int.reduceBEq, Int.reduceBNe, Int.reduceToNat, Int.reduceNeg, Nat.reduceBNe, plO, gA, w1]
        refine ⟨(p, i + 1), ⟨⟨by simp only; omega, hb.up, hf⟩, by simp only; omega⟩, ?_⟩
        simp only [OI, ↓reduceIte, reduceCtorEq, Nat.reduceAdd, Nat.reduceEqDiff, Nat.reduceBEq, Nat.reduceLT, Nat.reduceLeDiff, Nat.reduceMul, Nat.reduceSub, Int.reduceLE, Int.reduceLT, Int.reduceEq, Int.reduceBEq, Int.reduceBNe, Int.reduceToNat, Int.reduceNeg, Nat.reduceBNe, st1007, plO, gA]
        try rfl
      | cons k v =>
        rw [hw] at hf hwl hws
        simp only at hf
        simp only [List.length_cons] at hwl
        have hvl : v.length ≤ 5001 := by omega
        have hbr := hb.re
        have hbt := hb.rt
        have tw : List.map frz (List.take v.length (List.map nmA v)) = List.map nmA v := fz_map nmA (fun _ => rfl) rfl
        have tk : frz (nmA k) = nmA k := rfl
        have tl : (List.take v.length (List.map nmA v)).length = v.length := by simp
        have hne : (((v.length + 1 : Nat) : Int) == 0) = false := by rw [beq_eq_false_iff_ne]; omega
        simp only [OI, ↓reduceIte, reduceCtorEq, Nat.reduceAdd, Nat.reduceEqDiff, Nat.reduceBEq, Nat.reduceLT, Nat.reduceLeDiff, Nat.reduceMul, Nat.reduceSub, Int.reduceLE, Int.reduceLT, Int.reduceEq, Int.reduceBEq, Int.reduceBNe, Int.reduceToNat, Int.reduceNeg, Nat.reduceBNe, N_fzG, plO, gA, w1, tw, tk, tl, hne]
        refine c1017 p g k v (by omega) (by omega) (by omega) (by omega) ?_
        have hb2 := lineM_bd (g := g) (k := k) hb hvl (fun s hs => hws s (List.mem_cons_of_mem _ hs))
        by_cases he : (lineM p g (k :: v)).1 = 0
        · rw [if_neg (by simpa using he)] at hf
          simp only [OI, ↓reduceIte, reduceCtorEq, Nat.reduceAdd, Nat.reduceEqDiff, Nat.reduceBEq, Nat.reduceLT, Nat.reduceLeDiff, Nat.reduceMul, Nat.reduceSub, Int.reduceLE, Int.reduceLT, Int.reduceEq, Int.reduceBEq, Int.reduceBNe, Int.reduceToNat, Int.reduceNeg, Nat.reduceBNe, plO, gA, i64A, bneF he, w1]
          refine ⟨((lineM p g (k :: v)).2, i + 1), ⟨⟨by simp only; omega, hb2, hf⟩, by simp only; omega⟩, ?_⟩
          simp only [OI, ↓reduceIte, reduceCtorEq, Nat.reduceAdd, Nat.reduceEqDiff, Nat.reduceBEq, Nat.reduceLT, Nat.reduceLeDiff, Nat.reduceMul, Nat.reduceSub, Int.reduceLE, Int.reduceLT, Int.reduceEq, Int.reduceBEq, Int.reduceBNe, Int.reduceToNat, Int.reduceNeg, Nat.reduceBNe, st1007, plO, gA]
          try rfl
        · rw [if_pos he] at hf
          simp only [OI, ↓reduceIte, reduceCtorEq, Nat.reduceAdd, Nat.reduceEqDiff, Nat.reduceBEq, Nat.reduceLT, Nat.reduceLeDiff, Nat.reduceMul, Nat.reduceSub, Int.reduceLE, Int.reduceLT, Int.reduceEq, Int.reduceBEq, Int.reduceBNe, Int.reduceToNat, Int.reduceNeg, Nat.reduceBNe, N_fzG, plO, gA, i64A, bneT he, w1]
          refine bad _ _ ?_
          rw [hf, if_pos he]
    · obtain rfl : i = L.length := by omega
      rw [List.drop_length, foldM] at hf
      rw [hf, if_neg (by simp)] at bad good
      simp only at bad good
      have t1 : List.map frz (List.take p.re.length (List.map nmA p.re)) = List.map nmA p.re := fz_map nmA (fun _ => rfl) rfl
      have t2 : List.map frz (List.take p.rt.length (List.map rtA p.rt)) = List.map rtA p.rt := fz_map rtA (fun _ => rfl) rfl
      simp only [OI, ↓reduceIte, reduceCtorEq, Nat.reduceAdd, Nat.reduceEqDiff, Nat.reduceBEq, Nat.reduceLT, Nat.reduceLeDiff, Nat.reduceMul, Nat.reduceSub, Int.reduceLE, Int.reduceLT, Int.reduceEq, Int.reduceBEq, Int.reduceBNe, Int.reduceToNat, Int.reduceNeg, Nat.reduceBNe, st1007, plO, gA, Int.lt_irrefl, t1, t2, ttk, strsA_len, Nat.le_refl]
      refine c74m p g hs (hb.med (by omega) (by omega)) ?_
      by_cases hk : chkP p g = 0
      · rw [if_neg (by simpa using hk)] at good
        simp only [OI, ↓reduceIte, reduceCtorEq, Nat.reduceAdd, Nat.reduceEqDiff, Nat.reduceBEq, Nat.reduceLT, Nat.reduceLeDiff, Nat.reduceMul, Nat.reduceSub, Int.reduceLE, Int.reduceLT, Int.reduceEq, Int.reduceBEq, Int.reduceBNe, Int.reduceToNat, Int.reduceNeg, Nat.reduceBNe, N_fzG, plO, gA, i64A, bneF hk, t1, t2]
        exact good p rfl
      · rw [if_pos hk] at bad
        simp only [OI, ↓reduceIte, reduceCtorEq, Nat.reduceAdd, Nat.reduceEqDiff, Nat.reduceBEq, Nat.reduceLT, Nat.reduceLeDiff, Nat.reduceMul, Nat.reduceSub, Int.reduceLE, Int.reduceLT, Int.reduceEq, Int.reduceBEq, Int.reduceBNe, Int.reduceToNat, Int.reduceNeg, Nat.reduceBNe, N_fzG, plO, gA, i64A, bneT hk, t1, t2]
        exact bad _ _ rfl
  · rw [parR, if_pos hc] at bad good
    simp only [OI, ↓reduceIte, reduceCtorEq, Nat.reduceAdd, Nat.reduceEqDiff, Nat.reduceBEq, Nat.reduceLT, Nat.reduceLeDiff, Nat.reduceMul, Nat.reduceSub, Int.reduceLE, Int.reduceLT, Int.reduceEq, Int.reduceBEq, Int.reduceBNe, Int.reduceToNat, Int.reduceNeg, Nat.reduceBNe, N_fzG, i64A, bneT hc]
    exact bad _ _ rfl
end Go.Proofs.YthlehngbadianaaDoor.Ow
