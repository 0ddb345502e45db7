/- What the functions of the program do, each once: contracts of the logic (part d1). -/
import Derived.Test.YthlehngbadianaaOwEv3
import Derived.Test.YthlehngbadianaaProg
set_option linter.unusedVariables false
set_option linter.unusedSimpArgs false
set_option linter.unnecessarySimpa false
set_option maxRecDepth 100000
set_option maxHeartbeats 4000000
namespace Go.Proofs.Ythlehngbadianaa.Ow
open Go Go.RowKit Go.Proofs
theorem hmix : Try.prog.follows .mixedOrders = true := by kernel_rfl
def u8A (b : UInt8) : AV := .v (.int .u8 b.toNat)
def bsA (l : List UInt8) : List AV := l.map u8A
def i64A (n : Int) : AV := .v (.int .i64 n)
def u64A (n : Nat) : AV := .v (.int .u64 n)
def strV (l : List UInt8) : AV := .v (.string ⟨l.toArray⟩)
theorem byteV_u8A (b : UInt8) : byteV (u8A b) = some b := by
  have h : b.toNat < 256 := b.toNat_lt
  simp only [u8A, byteV]
  rw [if_pos (by omega)]
  simp
theorem mapM_bsA (l : List UInt8) : (bsA l).mapM byteV = some l := by
  induction l with
  | nil => rfl
  | cons b l ih => 
    simp only [bsA, List.map_cons, List.mapM_cons, byteV_u8A]
    simp only [bsA] at ih
    rw [ih]; rfl
theorem bsA_app (l m : List UInt8) : bsA (l ++ m) = bsA l ++ bsA m := by simp [bsA]
theorem bsA_one (b : UInt8) : bsA [b] = [u8A b] := rfl
theorem bsA_len (l : List UInt8) : (bsA l).length = l.length := by simp [bsA]
/-- A number's bytes, seven bits each. -/
def numB (v : Nat) : List UInt8 := if h : v < 128 then [UInt8.ofNat v] else UInt8.ofNat (v % 128 + 128) :: numB (v / 128)
theorem numB_small {v : Nat} (h : v < 128) : numB v = [UInt8.ofNat v] := by rw [numB, dif_pos h]
theorem numB_big {v : Nat} (h : 128 ≤ v) : numB v = UInt8.ofNat (v % 128 + 128) :: numB (v / 128) := by rw [numB, dif_neg (by omega)]
theorem ofNat_toNat {k : Nat} (h : k < 256) : (UInt8.ofNat k).toNat = k := by simp [UInt8.toNat_ofNat']; omega
theorem wrap_u8 (v : Nat) : IntKind.u8.wrap (v : Int) = ((v % 256 : Nat) : Int) := by simp [IntKind.wrap, IntKind.bits, IntKind.signed]
theorem or128 (v : Nat) : IntKind.u8.wrap ((BitVec.ofInt IntKind.u8.bits (IntKind.u8.wrap (v : Int)) ||| BitVec.ofInt IntKind.u8.bits 128).toNat : Int) = ((UInt8.ofNat (v % 128 + 128)).toNat : Int) := by
  rw [wrap_u8, wrap_u8, ofNat_toNat (by omega)]
  have h : ∀ k : BitVec 8, (k ||| 128#8).toNat = k.toNat % 128 + 128 := by decide
  have e : (BitVec.ofInt 8 ((v % 256 : Nat) : Int)) = BitVec.ofNat 8 v := by
    apply BitVec.eq_of_toNat_eq
    simp
    omega
  have h2 : (BitVec.ofInt IntKind.u8.bits ((v % 256 : Nat) : Int) ||| BitVec.ofInt IntKind.u8.bits 128).toNat = v % 128 + 128 := by
    show (BitVec.ofInt 8 ((v % 256 : Nat) : Int) ||| 128#8).toNat = v % 128 + 128
    rw [e, h]
    simp
  rw [h2]
  omega
theorem numB_len : ∀ (k v : Nat), v < 128 ^ (k + 1) → (numB v).length ≤ k + 1
  | 0, v, h => by rw [numB_small (by simpa using h)]; simp
  | k + 1, v, h => by
    by_cases hb : v < 128
    · rw [numB_small hb]; simp
    · rw [numB_big (by omega)]
      have := numB_len k (v / 128) (by rw [Nat.pow_succ] at h; omega)
      simp; omega
theorem numB_len64 {v : Nat} (h : v < 18446744073709551616) : (numB v).length ≤ 10 := numB_len 9 v (by omega)
theorem shr7 (v : Nat) : ((v : Int)).fdiv (2 ^ min 7 IntKind.u64.bits) = ((v / 128 : Nat) : Int) := by
  have : (2 : Int) ^ min 7 IntKind.u64.bits = ((128 : Nat) : Int) := rfl
  rw [this, Int.fdiv_eq_ediv_of_nonneg _ (by omega)]
  omega
theorem low8 {v : Nat} (h : v < 128) : IntKind.u8.wrap (v : Int) = ((UInt8.ofNat v).toNat : Int) := by rw [wrap_u8, ofNat_toNat (by omega)]; omega
/- watershed/code.Num -/
def cc110 : CC := (.seq (.region [⟨none, 2, (.val (.mv (.c (.string ⟨#[]⟩)))), [2], none, []⟩]) (.seq (.region [⟨none, 3, (.val (.mv (.c (.slice none 0 0)))), [], none, []⟩]) (.seq (.block 0 (.loop (.seq (.seq (.region [⟨none, 4, (.val (.mv (.s 0))), [], none, []⟩, ⟨none, 5, (.val (.bin .geq (.s 4) (.c (.int .u64 128)))), [4], none, []⟩]) (.cond (.s 5) .skip (.exit 0))) (.block 1 (.seq (.region [⟨none, 6, (.val (.mv (.s 3))), [3, 5], none, []⟩, ⟨none, 7, (.val (.mv (.s 0))), [], none, []⟩, ⟨none, 8, (.val (.cvi .u8 (.s 7))), [7], none, []⟩, ⟨none, 9, (.val (.bin .or (.s 8) (.c (.int .u8 128)))), [8], none, []⟩, ⟨none, 10, (.lit 1 [(.s 9)]), [9], none, []⟩, ⟨none, 11, (.app 1 1 false (.s 6) (.s 10)), [6, 10], none, []⟩, ⟨none, 3, (.val (.mv (.s 11))), [11], none, []⟩]) (.region [⟨none, 12, (.val (.mv (.s 0))), [0], none, []⟩, ⟨none, 13, (.val (.bin .shr (.s 12) (.c (.int .u64 7)))), [12], none, []⟩, ⟨none, 0, (.val (.mv (.s 13))), [13], none, []⟩])))))) (.seq (.region [⟨none, 14, (.val (.mv (.s 3))), [3, 5], none, []⟩, ⟨none, 15, (.val (.mv (.s 0))), [0], none, []⟩, ⟨none, 16, (.val (.cvi .u8 (.s 15))), [15], none, []⟩, ⟨none, 17, (.lit 1 [(.s 16)]), [16], none, []⟩, ⟨none, 18, (.app 1 1 false (.s 14) (.s 17)), [14, 17], none, []⟩, ⟨none, 19, (.val (.b2s (.s 18))), [18], none, []⟩, ⟨none, 2, (.val (.mv (.s 19))), [19], none, []⟩]) .ret))))
theorem ok110 : FnOk Try.prog 110 cc110 [(.t 2)] 1 20 := ⟨⟨_, Try.func110, by kernel_rfl, by kernel_rfl, by kernel_rfl⟩, by decide, by decide⟩


def st110 (I : World → Fp → Value → Fp → Prop) : Option (List UInt8) × Nat → St
  | (none, v) => ⟨[(0, .v (.int .u64 v)), (3, .v (.slice none 0 0))], [(9999, .ext I)], []⟩
  | (some l, v) => ⟨[(0, .v (.int .u64 v)), (3, .sl ⟨2011, [], 0⟩ 1 0 (bsA l).length)], [(2011, .own 1 (bsA l)), (9999, .ext I)], []⟩
theorem c110 (v : Nat) (hv : v < 18446744073709551616) {Q : AV → Al → Prop} (h : Q (strV (numB v)) []) : ACalls Try.prog 110 [] [u64A v] Q := by
  refine ok110.N hmix rfl ?_
  intro I
  simp only [cc110, OI0, OI1, OI2, OI3, OI4, OI5, OI6, OI7, OI8, OI9, OI10, OI11, OI12, ↓reduceIte, reduceCtorEq, Nat.reduceAdd, Nat.reduceEqDiff, Nat.reduceBEq, Nat.reduceLT, Nat.reduceLeDiff, Nat.reduceMul, Nat.reduceSub, Int.reduceLE, Int.reduceLT, Int.reduceEq, Int.reduceBEq, Int.reduceBNe, Int.reduceToNat, Int.reduceNeg, Nat.reduceBNe, forall_eq_or_imp, u64A]
  refine W_loop (st110 I) (fun a => (a.1.getD []) ++ numB a.2 = numB v ∧ (a.2 < 18446744073709551616)) (fun a => a.2) ?_ ?_ ?_
  · rintro ⟨l, v⟩ _
    cases l <;> rfl
  · refine ⟨(none, v), ⟨rfl, hv⟩, ?_⟩
    simp only [OI0, OI1, OI2, OI3, OI4, OI5, OI6, OI7, OI8, OI9, OI10, OI11, OI12, ↓reduceIte, reduceCtorEq, Nat.reduceAdd, Nat.reduceEqDiff, Nat.reduceBEq, Nat.reduceLT, Nat.reduceLeDiff, Nat.reduceMul, Nat.reduceSub, Int.reduceLE, Int.reduceLT, Int.reduceEq, Int.reduceBEq, Int.reduceBNe, Int.reduceToNat, Int.reduceNeg, Nat.reduceBNe, forall_eq_or_imp, st110, u64A]
  · rintro ⟨l, v'⟩ ⟨h2, h3⟩
    simp only at h2 h3
    have hll : (l.getD []).length ≤ 10 := by
      have := congrArg List.length h2
      rw [List.length_append] at this
      have := numB_len64 hv
      omega
    refine W_of_N ok110.small hmix ?_
    by_cases hb : 128 ≤ v'
    · have hb' : (128 : Int) ≤ v' := by omega
      cases l with
      | none =>
        simp only [OI0, OI1, OI2, OI3, OI4, OI5, OI6, OI7, OI8, OI9, OI10, OI11, OI12, ↓reduceIte, reduceCtorEq, Nat.reduceAdd, Nat.reduceEqDiff, Nat.reduceBEq, Nat.reduceLT, Nat.reduceLeDiff, Nat.reduceMul, Nat.reduceSub, Int.reduceLE, Int.reduceLT, Int.reduceEq, Int.reduceBEq, Int.reduceBNe, Int.reduceToNat, Int.reduceNeg, Nat.reduceBNe, forall_eq_or_imp, st110, or128, shr7, hb']
        refine ⟨(some [UInt8.ofNat (v' % 128 + 128)], v' / 128), ⟨⟨?_, by simp only; omega⟩, by simp only; omega⟩, ?_⟩
        · simp only [Option.getD_some, List.singleton_append, ← numB_big hb]; simpa using h2
        · simp only [OI0, OI1, OI2, OI3, OI4, OI5, OI6, OI7, OI8, OI9, OI10, OI11, OI12, ↓reduceIte, reduceCtorEq, Nat.reduceAdd, Nat.reduceEqDiff, Nat.reduceBEq, Nat.reduceLT, Nat.reduceLeDiff, Nat.reduceMul, Nat.reduceSub, Int.reduceLE, Int.reduceLT, Int.reduceEq, Int.reduceBEq, Int.reduceBNe, Int.reduceToNat, Int.reduceNeg, Nat.reduceBNe, forall_eq_or_imp, st110, bsA, u8A]
      | some l =>
        simp only [Option.getD_some] at hll h2
        simp only [OI0, OI1, OI2, OI3, OI4, OI5, OI6, OI7, OI8, OI9, OI10, OI11, OI12, ↓reduceIte, reduceCtorEq, Nat.reduceAdd, Nat.reduceEqDiff, Nat.reduceBEq, Nat.reduceLT, Nat.reduceLeDiff, Nat.reduceMul, Nat.reduceSub, Int.reduceLE, Int.reduceLT, Int.reduceEq, Int.reduceBEq, Int.reduceBNe, Int.reduceToNat, Int.reduceNeg, Nat.reduceBNe, forall_eq_or_imp, st110, or128, shr7, hb']
        refine ⟨by rw [bsA_len]; omega, ?_⟩
        refine ⟨(some (l ++ [UInt8.ofNat (v' % 128 + 128)]), v' / 128), ⟨⟨?_, by simp only; omega⟩, by simp only; omega⟩, ?_⟩
        · simp only [Option.getD_some, List.append_assoc, List.singleton_append, ← numB_big hb]; exact h2
        · simp only [OI0, OI1, OI2, OI3, OI4, OI5, OI6, OI7, OI8, OI9, OI10, OI11, OI12, ↓reduceIte, reduceCtorEq, Nat.reduceAdd, Nat.reduceEqDiff, Nat.reduceBEq, Nat.reduceLT, Nat.reduceLeDiff, Nat.reduceMul, Nat.reduceSub, Int.reduceLE, Int.reduceLT, Int.reduceEq, Int.reduceBEq, Int.reduceBNe, Int.reduceToNat, Int.reduceNeg, Nat.reduceBNe, forall_eq_or_imp, st110, bsA, u8A]
    · have hb' : ¬ (128 : Int) ≤ v' := by omega
      have hsm := numB_small (show v' < 128 by omega)
      rw [hsm] at h2
      cases l with
      | none =>
        simp only [OI0, OI1, OI2, OI3, OI4, OI5, OI6, OI7, OI8, OI9, OI10, OI11, OI12, ↓reduceIte, reduceCtorEq, Nat.reduceAdd, Nat.reduceEqDiff, Nat.reduceBEq, Nat.reduceLT, Nat.reduceLeDiff, Nat.reduceMul, Nat.reduceSub, Int.reduceLE, Int.reduceLT, Int.reduceEq, Int.reduceBEq, Int.reduceBNe, Int.reduceToNat, Int.reduceNeg, Nat.reduceBNe, forall_eq_or_imp, st110, hb', low8 (show v' < 128 by omega)]
        refine ⟨UInt8.ofNat v', byteV_u8A (UInt8.ofNat v'), ?_⟩
        rw [← h2] at h; exact h
      | some l =>
        simp only [Option.getD_some] at hll h2
        simp only [OI0, OI1, OI2, OI3, OI4, OI5, OI6, OI7, OI8, OI9, OI10, OI11, OI12, ↓reduceIte, reduceCtorEq, Nat.reduceAdd, Nat.reduceEqDiff, Nat.reduceBEq, Nat.reduceLT, Nat.reduceLeDiff, Nat.reduceMul, Nat.reduceSub, Int.reduceLE, Int.reduceLT, Int.reduceEq, Int.reduceBEq, Int.reduceBNe, Int.reduceToNat, Int.reduceNeg, Nat.reduceBNe, forall_eq_or_imp, st110, hb', low8 (show v' < 128 by omega)]
        refine ⟨by rw [bsA_len]; omega, numB v, ?_, h⟩
        rw [← h2, ← mapM_bsA, bsA_app]
        congr 1
        exact List.take_of_length_le (by simp [bsA])
end Go.Proofs.Ythlehngbadianaa.Ow
