/- What the functions of the program do, each once: contracts of the logic (part x1 x2). -/
import Derived.Test.YthlehngbadianaaDoorTspsqw1
import Derived.Test.YthlehngbadianaaDoorTg2g3g4g5g6g7g8h1h2h3h4h6
set_option linter.unusedVariables false
set_option linter.unusedSimpArgs false
set_option linter.unnecessarySimpa false
set_option maxRecDepth 100000
set_option maxHeartbeats 4000000
namespace Go.Proofs.YthlehngbadianaaDoor.Ow
open Go Go.RowKit Go.Proofs
/-! Numbers that words say. -/
def isD (b : UInt8) : Bool := decide (48 ≤ b.toNat) && decide (b.toNat ≤ 57)
def natF (l : List UInt8) : Nat := l.foldl (fun n b => 10 * n + (b.toNat - 48)) 0
theorem natF_snoc (l : List UInt8) (b : UInt8) : natF (l ++ [b]) = 10 * natF l + (b.toNat - 48) := by simp [natF]
def natR (l : List UInt8) : Option Nat := if l ≠ [] ∧ l.all isD = true ∧ (1 < l.length → l.head? ≠ some 48) then some (natF l) else none
theorem isD_dg (u : Nat) : isD (dg u) = true := by
  have h : (dg u).toNat = 48 + u % 10 := by rw [dg, ofNat_toNat (by omega)]
  simp only [isD, h, Bool.and_eq_true, decide_eq_true_eq]; omega
theorem dg_toNat (u : Nat) : (dg u).toNat = 48 + u % 10 := by rw [dg, ofNat_toNat (by omega)]
theorem digs_all : ∀ (n u : Nat), u ≤ n → (digs u).all isD = true
  | n, u, h => by
    by_cases hu : u < 10
    · rw [digs_small hu]; simp [isD_dg]
    · match n, h with
      | 0, h => omega
      | n + 1, h =>
        rw [digs_big hu, List.all_append, digs_all n (u / 10) (by omega)]; simp [isD_dg]
theorem digs_head : ∀ (n u : Nat), u ≤ n → 0 < u → (digs u).head? ≠ some 48
  | n, u, h, h0 => by
    by_cases hu : u < 10
    · rw [digs_small hu]
      simp only [List.head?_cons, ne_eq, Option.some.injEq]
      intro e
      have := congrArg UInt8.toNat e
      rw [dg_toNat] at this
      have e48 : (48 : UInt8).toNat = 48 := rfl
      omega
    · match n, h with
      | 0, h => omega
      | n + 1, h =>
        rw [digs_big hu, List.head?_append]
        have := digs_head n (u / 10) (by omega) (by omega)
        obtain ⟨x, xs, hx⟩ := List.exists_cons_of_ne_nil (l := digs (u / 10)) (by intro e; have := digs_pos (u / 10); rw [e] at this; simp at this)
        rw [hx] at this ⊢
        simpa using this
theorem natF_digs : ∀ (n u : Nat), u ≤ n → natF (digs u) = u
  | n, u, h => by
    by_cases hu : u < 10
    · rw [digs_small hu]
      simp only [natF, List.foldl_cons, List.foldl_nil, dg_toNat]; omega
    · match n, h with
      | 0, h => omega
      | n + 1, h =>
        rw [digs_big hu, natF_snoc, natF_digs n (u / 10) (by omega), dg_toNat]; omega
theorem natR_digs (u : Nat) : natR (digs u) = some u := by
  have h1 : digs u ≠ [] := by intro e; have := digs_pos u; rw [e] at this; simp at this
  have h2 : 1 < (digs u).length → (digs u).head? ≠ some 48 := by
    intro h
    by_cases h0 : u = 0
    · subst h0; rw [digs_small (by omega)] at h; simp at h
    · exact digs_head u u (Nat.le_refl _) (by omega)
  rw [natR, if_pos ⟨h1, digs_all u u (Nat.le_refl _), h2⟩, natF_digs u u (Nat.le_refl _)]
theorem digs_natF : ∀ (k : Nat) (l : List UInt8), l.length ≤ k → l ≠ [] → l.all isD = true → (1 < l.length → l.head? ≠ some 48) → digs (natF l) = l
  | k, l, hk, h0, h1, h2 => by
    obtain ⟨a, b, rfl⟩ : ∃ a b, l = a ++ [b] := ⟨_, _, (List.dropLast_concat_getLast h0).symm⟩
    rw [List.all_append, Bool.and_eq_true] at h1
    obtain ⟨ha, hb⟩ := h1
    have hb' : 48 ≤ b.toNat ∧ b.toNat ≤ 57 := by simpa [isD] using hb
    have hdg : ∀ m, dg (10 * m + (b.toNat - 48)) = b := by
      intro m
      apply UInt8.toNat_inj.1
      rw [dg_toNat]; omega
    rw [natF_snoc]
    by_cases hae : a = []
    · subst hae
      have e : natF [] = 0 := rfl
      rw [e, digs_small (by omega), hdg]; rfl
    · have hal : 1 ≤ a.length := by have := List.length_pos_iff.2 hae; omega
      have hh : a.head? ≠ some 48 := by
        have := h2 (by simp; omega)
        rw [List.head?_append] at this
        obtain ⟨x, xs, rfl⟩ := List.exists_cons_of_ne_nil hae
        simpa using this
      match k, hk with
      | 0, hk => simp at hk
      | k + 1, hk =>
        have ih := digs_natF k a (by simp at hk; omega) hae ha (fun _ => hh)
        have hpos : natF a ≠ 0 := by
          intro e
          rw [e, digs_small (by omega)] at ih
          apply hh
          rw [← ih]; rfl
        rw [digs_big (by omega), hdg]
        congr 1
        rw [show (10 * natF a + (b.toNat - 48)) / 10 = natF a by omega, ih]
theorem natR_some {l : List UInt8} {n : Nat} (h : natR l = some n) : digs n = l ∧ natF l = n ∧ l.all isD = true ∧ l ≠ [] := by
  unfold natR at h
  split at h
  · rename_i hc
    obtain rfl := Option.some.inj h
    exact ⟨digs_natF _ l (Nat.le_refl _) hc.1 hc.2.1 hc.2.2, rfl, hc.2.1, hc.1⟩
  · cases h
/-- The number with a sign that a word says. -/
def sgnR (w : List UInt8) : Option Int :=
  if w.head? = some 45 then
    match natR (w.drop 1) with
    | some n => if n = 0 ∨ 9223372036854775808 < n then none else some (-(n : Int))
    | none => none
  else match natR w with
    | some n => if 9223372036854775807 < n then none else some (n : Int)
    | none => none
theorem sgnR_some {w : List UInt8} {v : Int} (h : sgnR w = some v) : decL v = w ∧ -9223372036854775808 ≤ v ∧ v < 9223372036854775808 := by
  unfold sgnR at h
  split at h
  · rename_i hc
    split at h
    · rename_i n hn
      split at h
      · cases h
      · rename_i hb
        obtain rfl := Option.some.inj h
        obtain ⟨h1, _⟩ := natR_some hn
        have e : (-(n : Int)).natAbs = n := by omega
        refine ⟨?_, by omega, by omega⟩
        rw [decL, if_pos (by omega), e, h1]
        match w, hc with
        | x :: xs, hc =>
          simp only [List.head?_cons, Option.some.injEq] at hc
          subst hc; rfl
    · cases h
  · split at h
    · rename_i n hn
      split at h
      · cases h
      · rename_i hb
        obtain rfl := Option.some.inj h
        obtain ⟨h1, _⟩ := natR_some hn
        have e : ((n : Int)).natAbs = n := by omega
        exact ⟨by rw [decL, if_neg (by omega), e, h1], by omega, by omega⟩
    · cases h
theorem sgnR_decL {v : Int} (h0 : -9223372036854775808 ≤ v) (h1 : v < 9223372036854775808) : sgnR (decL v) = some v := by
  unfold sgnR decL
  by_cases hv : v < 0
  · rw [if_pos hv]
    simp only [List.drop_one, List.tail_cons, natR_digs, List.head?_cons, if_true]
    rw [if_neg (by omega)]
    congr 1; omega
  · rw [if_neg hv]
    have hne : ¬ (digs v.natAbs).head? = some 45 := by
      intro e
      have := digs_all _ v.natAbs (Nat.le_refl _)
      obtain ⟨x, xs, hx⟩ := List.exists_cons_of_ne_nil (l := digs v.natAbs) (by intro e; have := digs_pos v.natAbs; rw [e] at this; simp at this)
      rw [hx] at this e
      simp only [List.head?_cons, Option.some.injEq] at e
      subst e
      simp [isD] at this
    rw [if_neg hne]
    simp only [natR_digs]
    rw [if_neg (by omega)]
    congr 1; omega
theorem sgnR_len {w : List UInt8} {v : Int} (h : sgnR w = some v) : w.length ≤ 20 := by
  obtain ⟨h1, h2, h3⟩ := sgnR_some h
  have := digs_64 h2 h3
  rw [← h1, decL]
  split
  · simp; omega
  · omega
theorem natF_mono : ∀ (b a : List UInt8), natF a ≤ natF (a ++ b)
  | [], a => by simp
  | x :: b, a => by
    have h := natF_mono b (a ++ [x])
    rw [natF_snoc, List.append_assoc] at h
    simp only [List.cons_append, List.nil_append] at h
    omega
end Go.Proofs.YthlehngbadianaaDoor.Ow
set_option maxRecDepth 100000
set_option maxHeartbeats 4000000
namespace Go.Proofs.YthlehngbadianaaDoor.Ow
open Go Go.RowKit Go.Proofs
/- watershed/words.digit -/
def cc231 : CC := (.seq (.region [⟨none, 2, (.val (.mv (.c (.bool false)))), [2], none, []⟩]) (.seq (.region [⟨none, 3, (.val (.mv (.s 0))), [], none, []⟩, ⟨none, 4, (.val (.bin .geq (.s 3) (.c (.int .u8 48)))), [3], none, []⟩, ⟨none, 5, (.val (.mv (.s 4))), [4], none, []⟩, ⟨(some (5, true)), 6, (.val (.mv (.s 0))), [0], none, []⟩, ⟨(some (5, true)), 7, (.val (.bin .leq (.s 6) (.c (.int .u8 57)))), [6], none, []⟩, ⟨none, 8, (.val (.pick (.s 5) (.s 7) (.c (.bool false)))), [5, 7], none, []⟩, ⟨none, 2, (.val (.mv (.s 8))), [8], none, []⟩]) .ret))
theorem ok231 : FnOk Tryd.prog 63 cc231 [(.t 2)] 1 9 := ⟨⟨_, Tryd.func63, by kernel_rfl, by kernel_rfl, by kernel_rfl⟩, by decide, by decide⟩
/- strings.Cut -/
def cc1009 : CC := (.seq (.region [⟨none, 4, (.val (.mv (.c (.string ⟨#[]⟩)))), [4], none, []⟩, ⟨none, 5, (.val (.mv (.c (.string ⟨#[]⟩)))), [5], none, []⟩, ⟨none, 6, (.val (.mv (.c (.bool false)))), [6], none, []⟩]) (.seq (.region [⟨none, 7, (.val (.mv (.s 0))), [0], none, []⟩, ⟨none, 8, (.val (.mv (.s 1))), [1], none, []⟩, ⟨none, 9, (.callP 36 [(.s 7), (.s 8)]), [7, 8], none, []⟩, ⟨none, 10, (.val (.ext (.s 9) 0)), [], none, []⟩, ⟨none, 11, (.val (.ext (.s 9) 1)), [], none, []⟩, ⟨none, 12, (.val (.ext (.s 9) 2)), [9], none, []⟩, ⟨none, 4, (.val (.mv (.s 10))), [10], none, []⟩, ⟨none, 5, (.val (.mv (.s 11))), [11], none, []⟩, ⟨none, 6, (.val (.mv (.s 12))), [12], none, []⟩]) .ret))
theorem ok1009 : FnOk Tryd.prog 17 cc1009 [(.t 4), (.t 5), (.t 6)] 2 13 := ⟨⟨_, Tryd.func17, by kernel_rfl, by kernel_rfl, by kernel_rfl⟩, by decide, by decide⟩
/- internal/stringslite.Cut -/
def cc1019 : CC := (.seq (.region [⟨none, 4, (.val (.mv (.c (.string ⟨#[]⟩)))), [4], none, []⟩, ⟨none, 5, (.val (.mv (.c (.string ⟨#[]⟩)))), [5], none, []⟩, ⟨none, 6, (.val (.mv (.c (.bool false)))), [6], none, []⟩]) (.seq (.seq (.region [⟨none, 8, (.val (.mv (.s 0))), [], none, []⟩, ⟨none, 9, (.val (.mv (.s 1))), [], none, []⟩, ⟨none, 10, (.callP 61 [(.s 8), (.s 9)]), [8, 9], none, []⟩, ⟨none, 7, (.val (.mv (.s 10))), [10], none, []⟩]) (.seq (.region [⟨none, 11, (.val (.mv (.s 7))), [], none, []⟩, ⟨none, 12, (.val (.bin .geq (.s 11) (.c (.int .i64 0)))), [11], none, []⟩]) (.cond (.s 12) (.seq (.region [⟨none, 13, (.val (.mv (.s 0))), [12], none, []⟩, ⟨none, 14, (.val (.mv (.s 7))), [], none, []⟩, ⟨none, 15, (.val (.ss (.s 13) none (some (.s 14)))), [13, 14], none, []⟩, ⟨none, 16, (.val (.mv (.s 0))), [0], none, []⟩, ⟨none, 17, (.val (.mv (.s 7))), [7], none, []⟩, ⟨none, 18, (.val (.mv (.s 1))), [1], none, []⟩, ⟨none, 19, (.val (.lns (.s 18))), [18], none, []⟩, ⟨none, 20, (.val (.bin .add (.s 17) (.s 19))), [17, 19], none, []⟩, ⟨none, 21, (.val (.ss (.s 16) (some (.s 20)) none)), [16, 20], none, []⟩, ⟨none, 4, (.val (.mv (.s 15))), [15], none, []⟩, ⟨none, 5, (.val (.mv (.s 21))), [21], none, []⟩, ⟨none, 6, (.val (.mv (.c (.bool true)))), [], none, []⟩]) .ret) .skip))) (.seq (.region [⟨none, 22, (.val (.mv (.s 0))), [0, 1, 7, 12], none, []⟩, ⟨none, 4, (.val (.mv (.s 22))), [22], none, []⟩, ⟨none, 5, (.val (.mv (.c (.string ⟨#[]⟩)))), [], none, []⟩, ⟨none, 6, (.val (.mv (.c (.bool false)))), [], none, []⟩]) .ret)))
theorem ok1019 : FnOk Tryd.prog 36 cc1019 [(.t 4), (.t 5), (.t 6)] 2 23 := ⟨⟨_, Tryd.func36, by kernel_rfl, by kernel_rfl, by kernel_rfl⟩, by decide, by decide⟩
/- strings.CutPrefix -/
def cc1020 : CC := (.seq (.region [⟨none, 4, (.val (.mv (.c (.string ⟨#[]⟩)))), [4], none, []⟩, ⟨none, 5, (.val (.mv (.c (.bool false)))), [5], none, []⟩]) (.seq (.region [⟨none, 6, (.val (.mv (.s 0))), [0], none, []⟩, ⟨none, 7, (.val (.mv (.s 1))), [1], none, []⟩, ⟨none, 8, (.callP 62 [(.s 6), (.s 7)]), [6, 7], none, []⟩, ⟨none, 9, (.val (.ext (.s 8) 0)), [], none, []⟩, ⟨none, 10, (.val (.ext (.s 8) 1)), [8], none, []⟩, ⟨none, 4, (.val (.mv (.s 9))), [9], none, []⟩, ⟨none, 5, (.val (.mv (.s 10))), [10], none, []⟩]) .ret))
theorem ok1020 : FnOk Tryd.prog 37 cc1020 [(.t 4), (.t 5)] 2 11 := ⟨⟨_, Tryd.func37, by kernel_rfl, by kernel_rfl, by kernel_rfl⟩, by decide, by decide⟩
/- watershed/words.natural -/
def cc1021 : CC := (.seq (.region [⟨none, 4, (.val (.mv (.c (.int .u64 0)))), [], none, []⟩, ⟨none, 5, (.val (.mv (.c (.bool false)))), [5], none, []⟩]) (.seq (.seq (.region [⟨none, 8, (.val (.mv (.s 0))), [], none, []⟩, ⟨none, 9, (.val (.bin .eql (.s 8) (.c (.string ⟨#[]⟩)))), [8], none, []⟩, ⟨none, 10, (.val (.mv (.s 9))), [9], none, []⟩, ⟨(some (10, false)), 11, (.val (.mv (.s 0))), [], none, []⟩, ⟨(some (10, false)), 12, (.val (.lns (.s 11))), [11], none, []⟩, ⟨(some (10, false)), 13, (.val (.bin .gtr (.s 12) (.c (.int .i64 1)))), [12], none, []⟩, ⟨(some (10, false)), 14, (.val (.mv (.s 13))), [13], none, []⟩, ⟨(some (14, true)), 15, (.val (.mv (.s 0))), [], none, []⟩, ⟨(some (14, true)), 16, (.val (.is (.s 15) (.c (.int .i64 0)))), [15], none, []⟩, ⟨(some (14, true)), 17, (.val (.bin .eql (.s 16) (.c (.int .u8 48)))), [16], none, []⟩, ⟨(some (10, false)), 18, (.val (.pick (.s 14) (.s 17) (.c (.bool false)))), [14, 17], none, []⟩, ⟨none, 19, (.val (.pick (.s 10) (.c (.bool true)) (.s 18))), [10, 18], none, []⟩]) (.cond (.s 19) (.seq (.region [⟨none, 4, (.val (.mv (.c (.int .u64 0)))), [0, 1, 19], none, []⟩, ⟨none, 5, (.val (.mv (.c (.bool false)))), [], none, []⟩]) .ret) .skip)) (.seq (.seq (.region [⟨none, 20, (.val (.mv (.s 0))), [19], none, []⟩, ⟨none, 21, (.val (.lns (.s 20))), [20], none, []⟩, ⟨none, 22, (.val (.mv (.c (.int .i64 0)))), [], none, []⟩]) (.block 0 (.loop (.seq (.region [⟨none, 23, (.val (.bin .lss (.s 22) (.s 21))), [], none, []⟩]) (.seq (.cond (.s 23) .skip (.exit 0)) (.seq (.block 1 (.seq (.region [⟨none, 24, (.val (.mv (.s 22))), [23], none, []⟩, ⟨none, 6, (.val (.mv (.s 24))), [24], none, []⟩]) (.seq (.region [⟨none, 25, (.val (.mv (.s 0))), [], none, []⟩, ⟨none, 26, (.val (.mv (.s 6))), [], none, []⟩, ⟨none, 27, (.val (.is (.s 25) (.s 26))), [25, 26], none, []⟩, ⟨none, 28, (.val (.bin .sub (.s 27) (.c (.int .u8 48)))), [27], none, []⟩, ⟨none, 29, (.val (.cvi .u64 (.s 28))), [28], none, []⟩, ⟨none, 7, (.val (.mv (.s 29))), [29], none, []⟩]) (.seq (.seq (.region [⟨none, 30, (.val (.mv (.s 0))), [], none, []⟩, ⟨none, 31, (.val (.mv (.s 6))), [6], none, []⟩, ⟨none, 32, (.val (.is (.s 30) (.s 31))), [30, 31], none, []⟩, ⟨none, 33, (.callP 63 [(.s 32)]), [32], none, []⟩, ⟨none, 34, (.val (.un .not (.s 33))), [33], none, []⟩, ⟨none, 35, (.val (.mv (.s 34))), [34], none, []⟩, ⟨(some (35, false)), 36, (.val (.mv (.s 4))), [], none, []⟩, ⟨(some (35, false)), 37, (.val (.mv (.s 1))), [], none, []⟩, ⟨(some (35, false)), 38, (.val (.bin .quo (.s 37) (.c (.int .u64 10)))), [], none, []⟩, ⟨(some (35, false)), 39, (.val (.bin .gtr (.s 36) (.s 38))), [], none, []⟩, ⟨none, 40, (.val (.pick (.s 35) (.c (.bool true)) (.s 39))), [35], none, []⟩, ⟨none, 41, (.val (.mv (.s 40))), [40], none, []⟩, ⟨(some (41, false)), 42, (.val (.mv (.s 4))), [], none, []⟩, ⟨(some (41, false)), 43, (.val (.bin .mul (.c (.int .u64 10)) (.s 42))), [], none, []⟩, ⟨(some (41, false)), 44, (.val (.mv (.s 1))), [], none, []⟩, ⟨(some (41, false)), 45, (.val (.mv (.s 7))), [], none, []⟩, ⟨(some (41, false)), 46, (.val (.bin .sub (.s 44) (.s 45))), [], none, []⟩, ⟨(some (41, false)), 47, (.val (.bin .gtr (.s 43) (.s 46))), [], none, []⟩, ⟨none, 48, (.val (.pick (.s 41) (.c (.bool true)) (.s 47))), [41], none, []⟩]) (.cond (.s 48) (.seq (.region [⟨none, 4, (.val (.mv (.c (.int .u64 0)))), [0, 1, 7, 21, 22, 36, 37, 38, 39, 42, 43, 44, 45, 46, 47, 48], none, []⟩, ⟨none, 5, (.val (.mv (.c (.bool false)))), [], none, []⟩]) .ret) .skip)) (.region [⟨none, 49, (.val (.mv (.s 4))), [4, 48], none, []⟩, ⟨none, 50, (.val (.bin .mul (.c (.int .u64 10)) (.s 49))), [49], none, []⟩, ⟨none, 51, (.val (.mv (.s 7))), [7], none, []⟩, ⟨none, 52, (.val (.bin .add (.s 50) (.s 51))), [50, 51], none, []⟩, ⟨none, 4, (.val (.mv (.s 52))), [52], none, []⟩]))))) (.region [⟨none, 53, (.val (.bin .add (.s 22) (.c (.int .i64 1)))), [22], none, []⟩, ⟨none, 22, (.val (.mv (.s 53))), [53], none, []⟩]))))))) (.seq (.region [⟨none, 54, (.val (.mv (.s 4))), [0, 1, 4, 21, 22, 23, 36, 37, 38, 39, 42, 43, 44, 45, 46, 47], none, []⟩, ⟨none, 4, (.val (.mv (.s 54))), [54], none, []⟩, ⟨none, 5, (.val (.mv (.c (.bool true)))), [], none, []⟩]) .ret))))
theorem ok1021 : FnOk Tryd.prog 38 cc1021 [(.t 4), (.t 5)] 2 55 := ⟨⟨_, Tryd.func38, by kernel_rfl, by kernel_rfl, by kernel_rfl⟩, by decide, by decide⟩
/- internal/stringslite.CutPrefix -/
def cc1029 : CC := (.seq (.region [⟨none, 4, (.val (.mv (.c (.string ⟨#[]⟩)))), [4], none, []⟩, ⟨none, 5, (.val (.mv (.c (.bool false)))), [5], none, []⟩]) (.seq (.seq (.region [⟨none, 6, (.val (.mv (.s 0))), [], none, []⟩, ⟨none, 7, (.val (.mv (.s 1))), [], none, []⟩, ⟨none, 8, (.callP 74 [(.s 6), (.s 7)]), [6, 7], none, []⟩, ⟨none, 9, (.val (.un .not (.s 8))), [8], none, []⟩]) (.cond (.s 9) (.seq (.region [⟨none, 10, (.val (.mv (.s 0))), [0, 1, 9], none, []⟩, ⟨none, 4, (.val (.mv (.s 10))), [10], none, []⟩, ⟨none, 5, (.val (.mv (.c (.bool false)))), [], none, []⟩]) .ret) .skip)) (.seq (.region [⟨none, 11, (.val (.mv (.s 0))), [0, 9], none, []⟩, ⟨none, 12, (.val (.mv (.s 1))), [1], none, []⟩, ⟨none, 13, (.val (.lns (.s 12))), [12], none, []⟩, ⟨none, 14, (.val (.ss (.s 11) (some (.s 13)) none)), [11, 13], none, []⟩, ⟨none, 4, (.val (.mv (.s 14))), [14], none, []⟩, ⟨none, 5, (.val (.mv (.c (.bool true)))), [], none, []⟩]) .ret)))
theorem ok1029 : FnOk Tryd.prog 62 cc1029 [(.t 4), (.t 5)] 2 15 := ⟨⟨_, Tryd.func62, by kernel_rfl, by kernel_rfl, by kernel_rfl⟩, by decide, by decide⟩
/- internal/stringslite.HasPrefix -/
def cc1031 : CC := (.seq (.region [⟨none, 4, (.val (.mv (.c (.bool false)))), [4], none, []⟩]) (.seq (.region [⟨none, 5, (.val (.mv (.s 0))), [], none, []⟩, ⟨none, 6, (.val (.lns (.s 5))), [5], none, []⟩, ⟨none, 7, (.val (.mv (.s 1))), [], none, []⟩, ⟨none, 8, (.val (.lns (.s 7))), [7], none, []⟩, ⟨none, 9, (.val (.bin .geq (.s 6) (.s 8))), [6, 8], none, []⟩, ⟨none, 10, (.val (.mv (.s 9))), [9], none, []⟩, ⟨(some (10, true)), 11, (.val (.mv (.s 0))), [0], none, []⟩, ⟨(some (10, true)), 12, (.val (.mv (.s 1))), [], none, []⟩, ⟨(some (10, true)), 13, (.val (.lns (.s 12))), [12], none, []⟩, ⟨(some (10, true)), 14, (.val (.ss (.s 11) none (some (.s 13)))), [11, 13], none, []⟩, ⟨(some (10, true)), 15, (.val (.mv (.s 1))), [1], none, []⟩, ⟨(some (10, true)), 16, (.val (.bin .eql (.s 14) (.s 15))), [14, 15], none, []⟩, ⟨none, 17, (.val (.pick (.s 10) (.s 16) (.c (.bool false)))), [10, 16], none, []⟩, ⟨none, 4, (.val (.mv (.s 17))), [17], none, []⟩]) .ret))
theorem ok1031 : FnOk Tryd.prog 74 cc1031 [(.t 4)] 2 18 := ⟨⟨_, Tryd.func74, by kernel_rfl, by kernel_rfl, by kernel_rfl⟩, by decide, by decide⟩
theorem c231 (b : UInt8) {Q : AV → Al → Prop} (h : Q (.v (.bool (isD b))) []) : ACalls Tryd.prog 63 [] [u8A b] Q := by
  refine ok231.N hmix rfl ?_
  intro I
  by_cases h1 : (48 : Int) ≤ (b.toNat : Int)
  · by_cases h2 : (b.toNat : Int) ≤ 57
    · have e : isD b = true := by simp only [isD, Bool.and_eq_true, decide_eq_true_eq]; omega
      simp only [cc231, OI, ↓reduceIte, reduceCtorEq, Nat.reduceAdd, Nat.reduceEqDiff, Nat.reduceBEq, Nat.reduceLT, Nat.reduceLeDiff, Nat.reduceMul, Nat.reduceSub, Int.reduceLE, Int.reduceLT, Int.reduceEq, Int.reduceBEq, Int.reduceBNe, Int.reduceToNat, Int.reduceNeg, Nat.reduceBNe, u8A, h1, h2]
      rw [e] at h; exact h
    · have e : isD b = false := by simp only [isD, Bool.and_eq_false_iff, decide_eq_false_iff_not]; omega
      simp only [cc231, OI, ↓reduceIte, reduceCtorEq, Nat.reduceAdd, Nat.reduceEqDiff, Nat.reduceBEq, Nat.reduceLT, Nat.reduceLeDiff, Nat.reduceMul, Nat.reduceSub, Int.reduceLE, Int.reduceLT, Int.reduceEq, Int.reduceBEq, Int.reduceBNe, Int.reduceToNat, Int.reduceNeg, Nat.reduceBNe, u8A, h1, h2]
      rw [e] at h; exact h
  · have e : isD b = false := by simp only [isD, Bool.and_eq_false_iff, decide_eq_false_iff_not]; omega
    simp only [cc231, OI, ↓reduceIte, reduceCtorEq, Nat.reduceAdd, Nat.reduceEqDiff, Nat.reduceBEq, Nat.reduceLT, Nat.reduceLeDiff, Nat.reduceMul, Nat.reduceSub, Int.reduceLE, Int.reduceLT, Int.reduceEq, Int.reduceBEq, Int.reduceBNe, Int.reduceToNat, Int.reduceNeg, Nat.reduceBNe, u8A, h1]
    rw [e] at h; exact h
theorem pre_eq {s p : List UInt8} (h : p.length ≤ s.length) : (((⟨s.toArray⟩ : ByteArray).extract 0 p.length).toList == (⟨p.toArray⟩ : ByteArray).toList) = p.isPrefixOf s := by
  rw [ba_cut, ba_toL, ba_toL, List.drop_zero, Nat.sub_zero, Bool.eq_iff_iff, beq_iff_eq, List.isPrefixOf_iff_prefix, List.prefix_iff_eq_take]
  exact ⟨Eq.symm, Eq.symm⟩
theorem c1031 (s p : List UInt8) {Q : AV → Al → Prop} (h : Q (.v (.bool (p.isPrefixOf s))) []) : ACalls Tryd.prog 74 [] [strV s, strV p] Q := by
  refine ok1031.N hmix rfl ?_
  intro I
  have h1 := ba_size s
  have h2 := ba_size p
  by_cases hl : (p.length : Int) ≤ s.length
  · simp only [cc1031, OI, ↓reduceIte, reduceCtorEq, Nat.reduceAdd, Nat.reduceEqDiff, Nat.reduceBEq, Nat.reduceLT, Nat.reduceLeDiff, Nat.reduceMul, Nat.reduceSub, Int.reduceLE, Int.reduceLT, Int.reduceEq, Int.reduceBEq, Int.reduceBNe, Int.reduceToNat, Int.reduceNeg, Nat.reduceBNe, strV, h1, h2, hl]
    rw [pre_eq (by omega)]
    exact ⟨by omega, h⟩
  · simp only [cc1031, OI, ↓reduceIte, reduceCtorEq, Nat.reduceAdd, Nat.reduceEqDiff, Nat.reduceBEq, Nat.reduceLT, Nat.reduceLeDiff, Nat.reduceMul, Nat.reduceSub, Int.reduceLE, Int.reduceLT, Int.reduceEq, Int.reduceBEq, Int.reduceBNe, Int.reduceToNat, Int.reduceNeg, Nat.reduceBNe, strV, h1, h2, hl]
    have e : p.isPrefixOf s = false := by
      rw [Bool.eq_false_iff]
      intro e
      have := (List.isPrefixOf_iff_prefix.1 e).length_le
      omega
    rw [e] at h; exact h
def cutP (s p : List UInt8) : List UInt8 := if p.isPrefixOf s then s.drop p.length else s
theorem c1029 (s p : List UInt8) {Q : AV → Al → Prop} (h : Q (.tup [strV (cutP s p), .v (.bool (p.isPrefixOf s))]) []) : ACalls Tryd.prog 62 [] [strV s, strV p] Q := by
  refine ok1029.N hmix rfl ?_
  intro I
  have h1 := ba_size s
  have h2 := ba_size p
  simp only [cc1029, OI, ↓reduceIte, reduceCtorEq, Nat.reduceAdd, Nat.reduceEqDiff, Nat.reduceBEq, Nat.reduceLT, Nat.reduceLeDiff, Nat.reduceMul, Nat.reduceSub, Int.reduceLE, Int.reduceLT, Int.reduceEq, Int.reduceBEq, Int.reduceBNe, Int.reduceToNat, Int.reduceNeg, Nat.reduceBNe, strV]
  refine c1031 s p ?_
  by_cases hp : p.isPrefixOf s = true
  · have hl := (List.isPrefixOf_iff_prefix.1 hp).length_le
    have e : cutP s p = s.drop p.length := by rw [cutP, if_pos hp]
    simp only [OI, ↓reduceIte, reduceCtorEq, Nat.reduceAdd, Nat.reduceEqDiff, Nat.reduceBEq, Nat.reduceLT, Nat.reduceLeDiff, Nat.reduceMul, Nat.reduceSub, Int.reduceLE, Int.reduceLT, Int.reduceEq, Int.reduceBEq, Int.reduceBNe, Int.reduceToNat, Int.reduceNeg, Nat.reduceBNe, strV, hp, h1, h2]
    refine ⟨by omega, ?_⟩
    rw [ba_cut, List.take_of_length_le (by simp)]
    rw [e, hp] at h; exact h
  · have hp' : p.isPrefixOf s = false := Bool.eq_false_iff.2 hp
    have e : cutP s p = s := by rw [cutP, if_neg hp]
    simp only [OI, ↓reduceIte, reduceCtorEq, Nat.reduceAdd, Nat.reduceEqDiff, Nat.reduceBEq, Nat.reduceLT, Nat.reduceLeDiff, Nat.reduceMul, Nat.reduceSub, Int.reduceLE, Int.reduceLT, Int.reduceEq, Int.reduceBEq, Int.reduceBNe, Int.reduceToNat, Int.reduceNeg, Nat.reduceBNe, strV, hp', h1, h2]
    rw [e, hp'] at h; exact h
theorem c1020 (s p : List UInt8) {Q : AV → Al → Prop} (h : Q (.tup [strV (cutP s p), .v (.bool (p.isPrefixOf s))]) []) : ACalls Tryd.prog 37 [] [strV s, strV p] Q := by
  refine ok1020.N hmix rfl ?_
  intro I
  simp only [cc1020, OI, ↓reduceIte, reduceCtorEq, Nat.reduceAdd, Nat.reduceEqDiff, Nat.reduceBEq, Nat.reduceLT, Nat.reduceLeDiff, Nat.reduceMul, Nat.reduceSub, Int.reduceLE, Int.reduceLT, Int.reduceEq, Int.reduceBEq, Int.reduceBNe, Int.reduceToNat, Int.reduceNeg, Nat.reduceBNe, strV]
  refine c1029 s p ?_
  simp only [OI, ↓reduceIte, reduceCtorEq, Nat.reduceAdd, Nat.reduceEqDiff, Nat.reduceBEq, Nat.reduceLT, Nat.reduceLeDiff, Nat.reduceMul, Nat.reduceSub, Int.reduceLE, Int.reduceLT, Int.reduceEq, Int.reduceBEq, Int.reduceBNe, Int.reduceToNat, Int.reduceNeg, Nat.reduceBNe, strV]
  exact h
theorem c1028 (s : List UInt8) (b : UInt8) {Q : AV → Al → Prop} (h : Q (i64A (Lib.indexByte s b)) []) : ACalls Tryd.prog 61 [] [strV s, .v (.string ⟨#[b]⟩)] Q := by
  refine ACalls.kit rfl ?_ h
  intro I w F env vals hl hv
  obtain rfl := args2 hl hv
  refine (Any.stringslite_Index_one { sp146 with } ⟨s.toArray⟩ b w).mono ?_
  rintro e w' ⟨rfl, rfl⟩
  exact ⟨rfl, Below.refl _ _⟩
theorem c1019a (a r : List UInt8) (b : UInt8) (hb : b ∉ a) (hl : a.length + r.length ≤ 1000000) {Q : AV → Al → Prop} (h : Q (.tup [strV a, strV r, .v (.bool true)]) []) : ACalls Tryd.prog 36 [] [strV (a ++ b :: r), .v (.string ⟨#[b]⟩)] Q := by
  refine ok1019.N hmix rfl ?_
  intro I
  have h1 := ba_size (a ++ b :: r)
  have h2 : (⟨#[b]⟩ : ByteArray).size = 1 := rfl
  have h3 : (a ++ b :: r).length = a.length + (r.length + 1) := by simp
  have w1 : IntKind.i64.wrap ((a.length : Int) + 1) = ((a.length + 1 : Nat) : Int) := by rw [wrI64 (by omega) (by omega)]; omega
  have i0 : (0 : Int) ≤ a.length := by omega
  simp only [cc1019, OI, ↓reduceIte, reduceCtorEq, Nat.reduceAdd, Nat.reduceEqDiff, Nat.reduceBEq, Nat.reduceLT, Nat.reduceLeDiff, Nat.reduceMul, Nat.reduceSub, Int.reduceLE, Int.reduceLT, Int.reduceEq, Int.reduceBEq, Int.reduceBNe, Int.reduceToNat, Int.reduceNeg, Nat.reduceBNe, strV]
  refine c1028 (a ++ b :: r) b ?_
  rw [idx_at hb]
  simp only [OI, ↓reduceIte, reduceCtorEq, Nat.reduceAdd, Nat.reduceEqDiff, Nat.reduceBEq, Nat.reduceLT, Nat.reduceLeDiff, Nat.reduceMul, Nat.reduceSub, Int.reduceLE, Int.reduceLT, Int.reduceEq, Int.reduceBEq, Int.reduceBNe, Int.reduceToNat, Int.reduceNeg, Nat.reduceBNe, strV, i64A, i0, h1, h2, h3, w1]
  refine ⟨by omega, by omega, ?_⟩
  simp only [ba_cut]
  have e1 : (((a ++ b :: r).drop 0).take (a.length - 0)) = a := by simp
  have e2 : (((a ++ b :: r).drop (a.length + 1)).take (a.length + (r.length + 1) - (a.length + 1))) = r := by
    rw [show a ++ b :: r = (a ++ [b]) ++ r by simp, List.drop_left' (by simp)]
    exact List.take_of_length_le (by omega)
  rw [e1, e2]
  exact h
theorem c1019b (a : List UInt8) (b : UInt8) (hb : b ∉ a) {Q : AV → Al → Prop} (h : Q (.tup [strV a, strV [], .v (.bool false)]) []) : ACalls Tryd.prog 36 [] [strV a, .v (.string ⟨#[b]⟩)] Q := by
  refine ok1019.N hmix rfl ?_
  intro I
  have i0 : ¬ (0 : Int) ≤ -1 := by omega
  simp only [cc1019, OI, ↓reduceIte, reduceCtorEq, Nat.reduceAdd, Nat.reduceEqDiff, Nat.reduceBEq, Nat.reduceLT, Nat.reduceLeDiff, Nat.reduceMul, Nat.reduceSub, Int.reduceLE, Int.reduceLT, Int.reduceEq, Int.reduceBEq, Int.reduceBNe, Int.reduceToNat, Int.reduceNeg, Nat.reduceBNe, strV]
  refine c1028 a b ?_
  rw [idx_no hb]
  simp only [OI, ↓reduceIte, reduceCtorEq, Nat.reduceAdd, Nat.reduceEqDiff, Nat.reduceBEq, Nat.reduceLT, Nat.reduceLeDiff, Nat.reduceMul, Nat.reduceSub, Int.reduceLE, Int.reduceLT, Int.reduceEq, Int.reduceBEq, Int.reduceBNe, Int.reduceToNat, Int.reduceNeg, Nat.reduceBNe, strV, i64A, i0]
  exact h
theorem c1009a (a r : List UInt8) (b : UInt8) (hb : b ∉ a) (hl : a.length + r.length ≤ 1000000) {Q : AV → Al → Prop} (h : Q (.tup [strV a, strV r, .v (.bool true)]) []) : ACalls Tryd.prog 17 [] [strV (a ++ b :: r), .v (.string ⟨#[b]⟩)] Q := by
  refine ok1009.N hmix rfl ?_
  intro I
  simp only [cc1009, OI, ↓reduceIte, reduceCtorEq, Nat.reduceAdd, Nat.reduceEqDiff, Nat.reduceBEq, Nat.reduceLT, Nat.reduceLeDiff, Nat.reduceMul, Nat.reduceSub, Int.reduceLE, Int.reduceLT, Int.reduceEq, Int.reduceBEq, Int.reduceBNe, Int.reduceToNat, Int.reduceNeg, Nat.reduceBNe, strV]
  refine c1019a a r b hb hl ?_
  simp only [OI, ↓reduceIte, reduceCtorEq, Nat.reduceAdd, Nat.reduceEqDiff, Nat.reduceBEq, Nat.reduceLT, Nat.reduceLeDiff, Nat.reduceMul, Nat.reduceSub, Int.reduceLE, Int.reduceLT, Int.reduceEq, Int.reduceBEq, Int.reduceBNe, Int.reduceToNat, Int.reduceNeg, Nat.reduceBNe, strV]
  exact h
theorem c1009b (a : List UInt8) (b : UInt8) (hb : b ∉ a) {Q : AV → Al → Prop} (h : Q (.tup [strV a, strV [], .v (.bool false)]) []) : ACalls Tryd.prog 17 [] [strV a, .v (.string ⟨#[b]⟩)] Q := by
  refine ok1009.N hmix rfl ?_
  intro I
  simp only [cc1009, OI, ↓reduceIte, reduceCtorEq, Nat.reduceAdd, Nat.reduceEqDiff, Nat.reduceBEq, Nat.reduceLT, Nat.reduceLeDiff, Nat.reduceMul, Nat.reduceSub, Int.reduceLE, Int.reduceLT, Int.reduceEq, Int.reduceBEq, Int.reduceBNe, Int.reduceToNat, Int.reduceNeg, Nat.reduceBNe, strV]
  refine c1019b a b hb ?_
  simp only [OI, ↓reduceIte, reduceCtorEq, Nat.reduceAdd, Nat.reduceEqDiff, Nat.reduceBEq, Nat.reduceLT, Nat.reduceLeDiff, Nat.reduceMul, Nat.reduceSub, Int.reduceLE, Int.reduceLT, Int.reduceEq, Int.reduceBEq, Int.reduceBNe, Int.reduceToNat, Int.reduceNeg, Nat.reduceBNe, strV]
  exact h
/-- words.natural. -/
def natO (s : List UInt8) (m : Nat) : Nat × Bool := match natR s with
  | some n => if n ≤ m then (n, true) else (0, false)
  | none => (0, false)
def st1021 (I : World → Fp → Value → Fp → Prop) (s : List UInt8) (m : Nat) : Nat × Nat → St
  | (i, n) => ⟨[(22, .v (.int .i64 i)), (21, .v (.int .i64 s.length)), (0, strV s), (1, .v (.int .u64 m)), (4, .v (.int .u64 n))], [(9999, .ext I)], []⟩
theorem c1021 (s : List UInt8) (m : Nat) (hl : s.length ≤ 1000000) (hm : m < 18446744073709551616) (hm0 : 10 ≤ m) {Q : AV → Al → Prop} (h : Q (.tup [.v (.int .u64 (natO s m).1), .v (.bool (natO s m).2)]) []) : ACalls Tryd.prog 38 [] [strV s, .v (.int .u64 m)] Q := by
  refine ok1021.N hmix rfl ?_
  intro I
  have hsz := ba_size s
  by_cases hs : s = []
  · subst hs
    simp only [cc1021, OI, ↓reduceIte, reduceCtorEq, Nat.reduceAdd, Nat.reduceEqDiff, Nat.reduceBEq, Nat.reduceLT, Nat.reduceLeDiff, Nat.reduceMul, Nat.reduceSub, Int.reduceLE, Int.reduceLT, Int.reduceEq, Int.reduceBEq, Int.reduceBNe, Int.reduceToNat, Int.reduceNeg, Nat.reduceBNe, strV]
    simpa [natO, natR] using h
  have hb : ((⟨s.toArray⟩ : ByteArray).toList == (⟨#[]⟩ : ByteArray).toList) = false := by
    have e : (⟨#[]⟩ : ByteArray).toList = [] := ba_toL []
    rw [ba_toL, e]
    simpa using hs
  obtain ⟨c, hc⟩ : ∃ c, s[0]? = some c := ⟨_, List.getElem?_eq_getElem (List.length_pos_iff.2 hs)⟩
  have hbe := @ba_at s 0
  have hc48 : ((c.toNat : Int) == 48) = decide (c = 48) := by
    rw [Bool.eq_iff_iff, beq_iff_eq, decide_eq_true_eq]
    constructor
    · intro e; apply UInt8.toNat_inj.1; have : c.toNat = 48 := by omega
      rw [this]; rfl
    · rintro rfl; rfl
  have hhd : s.head? = some c := by rw [List.head?_eq_getElem?]; exact hc
  have l0 : (0 : Int) < s.length := by have := List.length_pos_iff.2 hs; omega
  by_cases hz : (1 : Int) < s.length ∧ c = 48
  · obtain ⟨hl1, rfl⟩ := hz
    have h10 : (((UInt8.toNat 48 : Nat) : Int) == 48) = true := rfl
    simp only [cc1021, OI, ↓reduceIte, reduceCtorEq, Nat.reduceAdd, Nat.reduceEqDiff, Nat.reduceBEq, Nat.reduceLT, Nat.reduceLeDiff, Nat.reduceMul, Nat.reduceSub, Int.reduceLE, Int.reduceLT, Int.reduceEq, Int.reduceBEq, Int.reduceBNe, Int.reduceToNat, Int.reduceNeg, Nat.reduceBNe, strV, hb, hsz, hl1, hbe, hc, h10]
    refine ⟨l0, ?_⟩
    have e : natR s = none := by rw [natR, if_neg]; rintro ⟨_, _, k⟩; exact k (by omega) hhd
    simpa [natO, e] using h
  have hh : 1 < s.length → s.head? ≠ some 48 := by
    intro k; rw [hhd]; intro e; exact hz ⟨by omega, Option.some.inj e⟩
  have hN : ∀ k, s.all isD = true → natF s = k → natR s = some k := fun k ha hk => by rw [natR, if_pos ⟨hs, ha, hh⟩, hk]
  by_cases hl1 : (1 : Int) < s.length
  all_goals first
    | (have hl1' : (1 : Int) < s.length := hl1
       have h48 : ((c.toNat : Int) == 48) = false := by rw [hc48]; exact decide_eq_false fun e => hz ⟨hl1, e⟩
       simp only [cc1021, OI, ↓reduceIte, reduceCtorEq, Nat.reduceAdd, Nat.reduceEqDiff, Nat.reduceBEq, Nat.reduceLT, Nat.reduceLeDiff, Nat.reduceMul, Nat.reduceSub, Int.reduceLE, Int.reduceLT, Int.reduceEq, Int.reduceBEq, Int.reduceBNe, Int.reduceToNat, Int.reduceNeg, Nat.reduceBNe, strV, hb, hsz, hl1, hbe, hc, h48]
       refine ⟨l0, ?_⟩)
    | simp only [cc1021, OI, ↓reduceIte, reduceCtorEq, Nat.reduceAdd, Nat.reduceEqDiff, Nat.reduceBEq, Nat.reduceLT, Nat.reduceLeDiff, Nat.reduceMul, Nat.reduceSub, Int.reduceLE, Int.reduceLT, Int.reduceEq, Int.reduceBEq, Int.reduceBNe, Int.reduceToNat, Int.reduceNeg, Nat.reduceBNe, strV, hb, hsz, hl1, hbe, hc]
  all_goals
    refine W_loop (st1021 I s m) (fun a => a.1 ≤ s.length ∧ (s.take a.1).all isD = true ∧ natF (s.take a.1) = a.2 ∧ a.2 ≤ m) (fun a => s.length - a.1) (fun _ _ => rfl) ⟨(0, 0), ⟨by simp, by simp, by simp [natF], by simp⟩, ?_⟩ ?_
    · simp only [OI, ↓reduceIte, reduceCtorEq, Nat.reduceAdd, Nat.reduceEqDiff, Nat.reduceBEq, Nat.reduceLT, Nat.reduceLeDiff, Nat.reduceMul, Nat.reduceSub, Int.reduceLE, Int.reduceLT, Int.reduceEq, Int.reduceBEq, Int.reduceBNe, Int.reduceToNat, Int.reduceNeg, Nat.reduceBNe, st1021, strV]
      try rfl
    rintro ⟨i, n⟩ ⟨hi, hal, hn, hnm⟩
    simp only at hi hal hn hnm
    refine W_of_N ok1021.small hmix ?_
    by_cases hil : i < s.length
    · have hil' : (i : Int) < s.length := by omega
      have i0 : (0 : Int) ≤ i := by omega
      obtain ⟨b, hbi⟩ : ∃ b, s[i]? = some b := ⟨_, List.getElem?_eq_getElem hil⟩
      have w1 : IntKind.i64.wrap ((i : Int) + 1) = ((i + 1 : Nat) : Int) := by rw [wrI64 (by omega) (by omega)]; omega
      have htk : s.take (i + 1) = s.take i ++ [b] := by rw [List.take_add_one, hbi]; rfl
      have hsp : s = (s.take i ++ [b]) ++ s.drop (i + 1) := by rw [← htk, List.take_append_drop]
      simp only [OI, ↓reduceIte, reduceCtorEq, Nat.reduceAdd, Nat.reduceEqDiff, Nat.reduceBEq, Nat.reduceLT, Nat.reduceLeDiff, Nat.reduceMul, Nat.reduceSub, Int.reduceLE, Int.reduceLT, Int.reduceEq, Int.reduceBEq, Int.reduceBNe, Int.reduceToNat, Int.reduceNeg, Nat.reduceBNe, st1021, strV, hsz, hil', i0, ba_at, hbi, w1]
      refine c231 b ?_
      by_cases hd : isD b = true
      · have hb' : 48 ≤ b.toNat ∧ b.toNat ≤ 57 := by simpa [isD] using hd
        have wd : IntKind.u64.wrap (IntKind.u8.wrap ((b.toNat : Int) - 48)) = ((b.toNat - 48 : Nat) : Int) := by
          simp only [IntKind.wrap, IntKind.bits, IntKind.signed]; simp; omega
        have wq : IntKind.u64.wrap ((m : Int).tdiv 10) = ((m / 10 : Nat) : Int) := by
          rw [Int.tdiv_eq_ediv_of_nonneg (by omega)]
          simp only [IntKind.wrap, IntKind.bits, IntKind.signed]; simp; omega
        have ws : IntKind.u64.wrap ((m : Int) - ((b.toNat - 48 : Nat) : Int)) = ((m - (b.toNat - 48) : Nat) : Int) := by
          simp only [IntKind.wrap, IntKind.bits, IntKind.signed]; simp; omega
        have hbig : m < 10 * n + (b.toNat - 48) → Q (AV.tup [AV.v (Value.int IntKind.u64 0), AV.v (Value.bool false)]) [] := by
          intro hb2
          have e : natO s m = (0, false) := by
            unfold natO
            split
            · rename_i k hk
              obtain ⟨_, h2, _⟩ := natR_some hk
              rw [if_neg]
              have := natF_mono (s.drop (i + 1)) (s.take i ++ [b])
              rw [← hsp, natF_snoc, hn] at this
              omega
            · rfl
          rw [e] at h; exact h
        by_cases h1 : ((m / 10 : Nat) : Int) < n
        · simp only [OI, ↓reduceIte, reduceCtorEq, Nat.reduceAdd, Nat.reduceEqDiff, Nat.reduceBEq, Nat.reduceLT, Nat.reduceLeDiff, Nat.reduceMul, Nat.reduceSub, Int.reduceLE, Int.reduceLT, Int.reduceEq, Int.reduceBEq, Int.reduceBNe, Int.reduceToNat, Int.reduceNeg, Nat.reduceBNe, u8A, hd, wd, wq, h1, hil', i0, ba_at, hbi]
          exact hbig (by omega)
        have w10 : IntKind.u64.wrap (10 * (n : Int)) = ((10 * n : Nat) : Int) := by
          simp only [IntKind.wrap, IntKind.bits, IntKind.signed]; simp; omega
        by_cases h2 : ((m - (b.toNat - 48) : Nat) : Int) < ((10 * n : Nat) : Int)
        · simp only [OI, ↓reduceIte, reduceCtorEq, Nat.reduceAdd, Nat.reduceEqDiff, Nat.reduceBEq, Nat.reduceLT, Nat.reduceLeDiff, Nat.reduceMul, Nat.reduceSub, Int.reduceLE, Int.reduceLT, Int.reduceEq, Int.reduceBEq, Int.reduceBNe, Int.reduceToNat, Int.reduceNeg, Nat.reduceBNe, u8A, hd, wd, wq, ws, w10, h1, h2, hil', i0, ba_at, hbi]
          exact hbig (by omega)
        have wa : IntKind.u64.wrap (((10 * n : Nat) : Int) + ((b.toNat - 48 : Nat) : Int)) = ((10 * n + (b.toNat - 48) : Nat) : Int) := by
          simp only [IntKind.wrap, IntKind.bits, IntKind.signed]; simp; omega
        simp only [OI, ↓reduceIte, reduceCtorEq, Nat.reduceAdd, Nat.reduceEqDiff, Nat.reduceBEq, Nat.reduceLT, Nat.reduceLeDiff, Nat.reduceMul, Nat.reduceSub, Int.reduceLE, Int.reduceLT, Int.reduceEq, Int.reduceBEq, Int.reduceBNe, Int.reduceToNat, Int.reduceNeg, Nat.reduceBNe, u8A, hd, wd, wq, ws, w10, wa, w1, h1, h2, hil', i0, ba_at, hbi]
        refine ⟨(i + 1, 10 * n + (b.toNat - 48)), ⟨⟨by omega, ?_, ?_, by simp only; omega⟩, by simp only; omega⟩, ?_⟩
        · simp only [htk, List.all_append, hal, hd, List.all_cons, List.all_nil, Bool.and_self]
        · simp only [htk, natF_snoc, hn]
        · simp only [OI, ↓reduceIte, reduceCtorEq, Nat.reduceAdd, Nat.reduceEqDiff, Nat.reduceBEq, Nat.reduceLT, Nat.reduceLeDiff, Nat.reduceMul, Nat.reduceSub, Int.reduceLE, Int.reduceLT, Int.reduceEq, Int.reduceBEq, Int.reduceBNe, Int.reduceToNat, Int.reduceNeg, Nat.reduceBNe, st1021, strV]
          try rfl
      · have hd' : isD b = false := Bool.eq_false_iff.2 hd
        have e : natR s = none := by
          rw [natR, if_neg]
          rintro ⟨_, ha, _⟩
          rw [hsp, List.all_append, List.all_append] at ha
          simp [hd'] at ha
        simp only [OI, ↓reduceIte, reduceCtorEq, Nat.reduceAdd, Nat.reduceEqDiff, Nat.reduceBEq, Nat.reduceLT, Nat.reduceLeDiff, Nat.reduceMul, Nat.reduceSub, Int.reduceLE, Int.reduceLT, Int.reduceEq, Int.reduceBEq, Int.reduceBNe, Int.reduceToNat, Int.reduceNeg, Nat.reduceBNe, u8A, hd']
        simpa [natO, e] using h
    · obtain rfl : i = s.length := by omega
      rw [List.take_of_length_le (Nat.le_refl _)] at hal hn
      simp only [OI, ↓reduceIte, reduceCtorEq, Nat.reduceAdd, Nat.reduceEqDiff, Nat.reduceBEq, Nat.reduceLT, Nat.reduceLeDiff, Nat.reduceMul, Nat.reduceSub, Int.reduceLE, Int.reduceLT, Int.reduceEq, Int.reduceBEq, Int.reduceBNe, Int.reduceToNat, Int.reduceNeg, Nat.reduceBNe, st1021, strV, hsz, Int.lt_irrefl]
      have e := hN n hal hn
      simpa [natO, e, hnm] using h
end Go.Proofs.YthlehngbadianaaDoor.Ow
