/- What the functions of the program do, each once: contracts of the logic (part d8). -/
import Derived.Test.YthlehngbadianaaTd7
import Derived.Test.YthlehngbadianaaTbw
set_option linter.unusedVariables false
set_option linter.unusedSimpArgs false
set_option linter.unnecessarySimpa false
set_option maxRecDepth 100000
set_option maxHeartbeats 4000000
namespace Go.Proofs.Ythlehngbadianaa.Ow
open Go Go.RowKit Go.Proofs
/- watershed/data.Write -/
def cc31 : CC := (.seq (.region [⟨none, 1, (.box 0), [0], none, []⟩, ⟨none, 2, (.val (.mv (.c (.string ⟨#[]⟩)))), [2], none, []⟩, ⟨none, 3, (.val (.mv (.c (.int .i64 0)))), [3], none, []⟩]) (.seq (.seq (.region [⟨none, 10, (.val (.ld (.s 1) (some 7))), [], none, []⟩, ⟨none, 11, (.call 34 [(.s 10)]), [10], none, []⟩, ⟨none, 4, (.val (.mv (.s 11))), [11], none, []⟩]) (.seq (.region [⟨none, 12, (.val (.mv (.s 4))), [], none, []⟩, ⟨none, 13, (.val (.bin .neq (.s 12) (.c (.int .i64 0)))), [12], none, []⟩]) (.cond (.s 13) (.seq (.region [⟨none, 14, (.val (.mv (.s 4))), [1, 4, 13], none, []⟩, ⟨none, 2, (.val (.mv (.c (.string ⟨#[]⟩)))), [], none, []⟩, ⟨none, 3, (.val (.mv (.s 14))), [14], none, []⟩]) .ret) .skip))) (.seq (.region [⟨none, 16, (.val (.fa (.s 1) 1)), [4, 13], none, []⟩, ⟨none, 17, (.val (.ld (.s 16) (some 5))), [16], none, []⟩, ⟨none, 18, (.call 108 [(.s 17)]), [17], none, []⟩, ⟨none, 15, (.val (.mv (.s 18))), [18], none, []⟩, ⟨none, 19, (.val (.ext (.s 15) 0)), [], none, []⟩, ⟨none, 20, (.val (.ext (.s 15) 1)), [15], none, []⟩, ⟨none, 5, (.val (.mv (.s 19))), [19], none, []⟩, ⟨none, 6, (.val (.mv (.s 20))), [6, 20], none, []⟩]) (.seq (.region [⟨none, 7, (.allocF (.agg #[(.pointer none), (.slice none 0 0)]) 174), [], none, []⟩]) (.seq (.drawn (.op ⟨none, 21, (.val (.fa (.s 1) 0)), [], none, []⟩ (.op ⟨none, 22, (.val (.ld (.s 21) none)), [], none, []⟩ (.op ⟨none, 23, (.val (.cvi .u64 (.s 22))), [], none, []⟩ (.op ⟨none, 25, (.val (.mv (.s 5))), [], none, []⟩ (.op ⟨none, 27, (.val (.fa (.s 1) 6)), [], none, []⟩ (.alt (.op ⟨none, 24, (.call 110 [(.s 23)]), [], none, []⟩ (.op ⟨none, 26, (.val (.bin .add (.s 24) (.s 25))), [], none, []⟩ (.op ⟨none, 28, (.val (.ld (.s 27) none)), [], none, []⟩ (.op ⟨none, 29, (.val (.lnl (.s 28) 2)), [], none, []⟩ (.op ⟨none, 30, (.val (.cvi .u64 (.s 29))), [], none, []⟩ (.op ⟨none, 31, (.call 110 [(.s 30)]), [], none, []⟩ (.op ⟨none, 32, (.val (.bin .add (.s 26) (.s 31))), [], none, []⟩ (.op ⟨none, 33, (.call 109 [(.s 7), (.s 32)]), [], (some 0), []⟩ .done)))))))) (.op ⟨none, 28, (.val (.ld (.s 27) none)), [], none, []⟩ (.op ⟨none, 29, (.val (.lnl (.s 28) 2)), [], none, []⟩ (.op ⟨none, 30, (.val (.cvi .u64 (.s 29))), [], none, []⟩ (.op ⟨none, 24, (.call 110 [(.s 23)]), [], none, []⟩ (.op ⟨none, 26, (.val (.bin .add (.s 24) (.s 25))), [], none, []⟩ (.op ⟨none, 31, (.call 110 [(.s 30)]), [], none, []⟩ (.op ⟨none, 32, (.val (.bin .add (.s 26) (.s 31))), [], none, []⟩ (.op ⟨none, 33, (.call 109 [(.s 7), (.s 32)]), [], (some 0), []⟩ .done))))))))))))))) (.seq (.seq (.region [⟨none, 34, (.val (.fa (.s 1) 6)), [1, 5, 21, 22, 23, 24, 25, 26, 27, 28, 29, 30, 31, 32, 33], none, []⟩, ⟨none, 35, (.val (.ld (.s 34) none)), [34], none, []⟩, ⟨none, 36, (.val (.lnl (.s 35) 2)), [], none, []⟩, ⟨none, 37, (.val (.mv (.c (.int .i64 0)))), [], none, []⟩]) (.block 0 (.loop (.seq (.region [⟨none, 38, (.val (.bin .lss (.s 37) (.s 36))), [], none, []⟩]) (.seq (.cond (.s 38) .skip (.exit 0)) (.seq (.block 1 (.seq (.region [⟨none, 39, (.val (.ia (.s 35) (.s 37) 2)), [38], none, []⟩, ⟨none, 40, (.val (.ld (.s 39) (some 2))), [39], none, []⟩, ⟨none, 9, (.alloc (.agg #[(.int .i64 0), (.int .i64 0)])), [], none, []⟩, ⟨none, 0, (.store 2 (.s 9) (.s 40)), [40], none, []⟩]) (.drawn (.op ⟨none, 41, (.val (.fa (.s 9) 0)), [], none, []⟩ (.op ⟨none, 42, (.val (.ld (.s 41) none)), [], none, []⟩ (.op ⟨none, 44, (.val (.fa (.s 9) 1)), [], none, []⟩ (.alt (.op ⟨none, 43, (.call 111 [(.s 42)]), [], none, []⟩ (.op ⟨none, 45, (.val (.ld (.s 44) none)), [], none, []⟩ (.op ⟨none, 46, (.call 111 [(.s 45)]), [], none, []⟩ (.op ⟨none, 47, (.val (.bin .add (.s 43) (.s 46))), [], none, []⟩ (.op ⟨none, 48, (.call 109 [(.s 7), (.s 47)]), [], (some 0), []⟩ .done))))) (.op ⟨none, 45, (.val (.ld (.s 44) none)), [], none, []⟩ (.op ⟨none, 43, (.call 111 [(.s 42)]), [], none, []⟩ (.op ⟨none, 46, (.call 111 [(.s 45)]), [], none, []⟩ (.op ⟨none, 47, (.val (.bin .add (.s 43) (.s 46))), [], none, []⟩ (.op ⟨none, 48, (.call 109 [(.s 7), (.s 47)]), [], (some 0), []⟩ .done)))))))))))) (.region [⟨none, 49, (.val (.bin .add (.s 37) (.c (.int .i64 1)))), [9, 37, 48], none, []⟩, ⟨none, 37, (.val (.mv (.s 49))), [49], none, []⟩]))))))) (.seq (.region [⟨none, 50, (.call 112 [(.s 7)]), [7, 35, 36, 37, 38, 41, 42, 43, 44, 45, 46, 47], (some 0), []⟩, ⟨none, 2, (.val (.mv (.s 50))), [50], none, []⟩, ⟨none, 3, (.val (.mv (.c (.int .i64 0)))), [], none, []⟩]) .ret)))))))
theorem ok31 : FnOk Try.prog 31 cc31 [(.t 2), (.t 3)] 1 51 := ⟨⟨_, Try.func31, by kernel_rfl, by kernel_rfl, by kernel_rfl⟩, by decide, by decide⟩

/- watershed/watershedref11.Write -/
def cc33 : CC := (.seq (.region [⟨none, 1, (.box 0), [0], none, []⟩, ⟨none, 2, (.val (.mv (.c (.string ⟨#[]⟩)))), [2], none, []⟩, ⟨none, 3, (.val (.mv (.c (.int .i64 0)))), [3], none, []⟩]) (.seq (.region [⟨none, 9, (.val (.ld (.s 1) (some 7))), [], none, []⟩, ⟨none, 10, (.call 35 [(.s 9)]), [9], none, []⟩, ⟨none, 4, (.val (.mv (.s 10))), [10], none, []⟩]) (.seq (.seq (.region [⟨none, 11, (.val (.mv (.s 4))), [], none, []⟩, ⟨none, 12, (.val (.bin .neq (.s 11) (.c (.int .i64 0)))), [11], none, []⟩]) (.cond (.s 12) (.seq (.region [⟨none, 13, (.val (.mv (.s 4))), [1, 4, 12], none, []⟩, ⟨none, 2, (.val (.mv (.c (.string ⟨#[]⟩)))), [], none, []⟩, ⟨none, 3, (.val (.mv (.s 13))), [13], none, []⟩]) .ret) .skip)) (.seq (.region [⟨none, 15, (.val (.fa (.s 1) 1)), [4, 12], none, []⟩, ⟨none, 16, (.val (.ld (.s 15) (some 5))), [15], none, []⟩, ⟨none, 17, (.call 113 [(.s 16)]), [16], none, []⟩, ⟨none, 14, (.val (.mv (.s 17))), [17], none, []⟩, ⟨none, 18, (.val (.ext (.s 14) 0)), [], none, []⟩, ⟨none, 19, (.val (.ext (.s 14) 1)), [14], none, []⟩, ⟨none, 5, (.val (.mv (.s 18))), [18], none, []⟩, ⟨none, 6, (.val (.mv (.s 19))), [6, 19], none, []⟩]) (.seq (.drawn (.op ⟨none, 20, (.val (.fa (.s 1) 0)), [], none, []⟩ (.op ⟨none, 21, (.val (.ld (.s 20) none)), [], none, []⟩ (.op ⟨none, 22, (.val (.cvi .u64 (.s 21))), [], none, []⟩ (.op ⟨none, 24, (.val (.mv (.s 5))), [], none, []⟩ (.op ⟨none, 26, (.val (.fa (.s 1) 6)), [], none, []⟩ (.alt (.op ⟨none, 23, (.call 114 [(.s 22)]), [], none, []⟩ (.op ⟨none, 25, (.val (.bin .add (.s 23) (.s 24))), [], none, []⟩ (.op ⟨none, 27, (.val (.ld (.s 26) none)), [], none, []⟩ (.op ⟨none, 28, (.val (.lnl (.s 27) 2)), [], none, []⟩ (.op ⟨none, 29, (.val (.cvi .u64 (.s 28))), [], none, []⟩ (.op ⟨none, 30, (.call 114 [(.s 29)]), [], none, []⟩ (.op ⟨none, 31, (.val (.bin .add (.s 25) (.s 30))), [], none, []⟩ (.op ⟨none, 7, (.val (.mv (.s 31))), [], none, []⟩ .done)))))))) (.op ⟨none, 27, (.val (.ld (.s 26) none)), [], none, []⟩ (.op ⟨none, 28, (.val (.lnl (.s 27) 2)), [], none, []⟩ (.op ⟨none, 29, (.val (.cvi .u64 (.s 28))), [], none, []⟩ (.op ⟨none, 23, (.call 114 [(.s 22)]), [], none, []⟩ (.op ⟨none, 25, (.val (.bin .add (.s 23) (.s 24))), [], none, []⟩ (.op ⟨none, 30, (.call 114 [(.s 29)]), [], none, []⟩ (.op ⟨none, 31, (.val (.bin .add (.s 25) (.s 30))), [], none, []⟩ (.op ⟨none, 7, (.val (.mv (.s 31))), [], none, []⟩ .done))))))))))))))) (.seq (.seq (.region [⟨none, 8, (.val (.mv (.c (.int .i64 0)))), [5, 20, 21, 22, 23, 24, 25, 26, 27, 28, 29, 30, 31], none, []⟩]) (.block 0 (.loop (.seq (.seq (.region [⟨none, 32, (.val (.mv (.s 8))), [], none, []⟩, ⟨none, 33, (.val (.fa (.s 1) 6)), [], none, []⟩, ⟨none, 34, (.val (.ld (.s 33) none)), [33], none, []⟩, ⟨none, 35, (.val (.lnl (.s 34) 2)), [34], none, []⟩, ⟨none, 36, (.val (.bin .lss (.s 32) (.s 35))), [32, 35], none, []⟩]) (.cond (.s 36) .skip (.exit 0))) (.seq (.block 1 (.drawn (.op ⟨none, 39, (.val (.mv (.s 7))), [], none, []⟩ (.op ⟨none, 40, (.val (.fa (.s 1) 6)), [], none, []⟩ (.op ⟨none, 41, (.val (.ld (.s 40) none)), [], none, []⟩ (.op ⟨none, 42, (.val (.mv (.s 8))), [], none, []⟩ (.op ⟨none, 43, (.val (.ia (.s 41) (.s 42) 2)), [], none, []⟩ (.op ⟨none, 44, (.val (.fa (.s 43) 0)), [], none, []⟩ (.op ⟨none, 45, (.val (.ld (.s 44) none)), [], none, []⟩ (.op ⟨none, 48, (.val (.fa (.s 1) 6)), [], none, []⟩ (.op ⟨none, 50, (.val (.mv (.s 8))), [], none, []⟩ (.alt (.op ⟨none, 46, (.call 115 [(.s 45)]), [], none, []⟩ (.op ⟨none, 47, (.val (.bin .add (.s 39) (.s 46))), [], none, []⟩ (.op ⟨none, 49, (.val (.ld (.s 48) none)), [], none, []⟩ (.op ⟨none, 51, (.val (.ia (.s 49) (.s 50) 2)), [], none, []⟩ (.op ⟨none, 52, (.val (.fa (.s 51) 1)), [], none, []⟩ (.op ⟨none, 53, (.val (.ld (.s 52) none)), [], none, []⟩ (.op ⟨none, 54, (.call 115 [(.s 53)]), [], none, []⟩ (.op ⟨none, 55, (.val (.bin .add (.s 47) (.s 54))), [], none, []⟩ (.op ⟨none, 7, (.val (.mv (.s 55))), [], none, []⟩ .done))))))))) (.op ⟨none, 49, (.val (.ld (.s 48) none)), [], none, []⟩ (.op ⟨none, 51, (.val (.ia (.s 49) (.s 50) 2)), [], none, []⟩ (.op ⟨none, 52, (.val (.fa (.s 51) 1)), [], none, []⟩ (.alt (.op ⟨none, 46, (.call 115 [(.s 45)]), [], none, []⟩ (.op ⟨none, 47, (.val (.bin .add (.s 39) (.s 46))), [], none, []⟩ (.op ⟨none, 53, (.val (.ld (.s 52) none)), [], none, []⟩ (.op ⟨none, 54, (.call 115 [(.s 53)]), [], none, []⟩ (.op ⟨none, 55, (.val (.bin .add (.s 47) (.s 54))), [], none, []⟩ (.op ⟨none, 7, (.val (.mv (.s 55))), [], none, []⟩ .done)))))) (.op ⟨none, 53, (.val (.ld (.s 52) none)), [], none, []⟩ (.op ⟨none, 46, (.call 115 [(.s 45)]), [], none, []⟩ (.op ⟨none, 47, (.val (.bin .add (.s 39) (.s 46))), [], none, []⟩ (.op ⟨none, 54, (.call 115 [(.s 53)]), [], none, []⟩ (.op ⟨none, 55, (.val (.bin .add (.s 47) (.s 54))), [], none, []⟩ (.op ⟨none, 7, (.val (.mv (.s 55))), [], none, []⟩ .done)))))))))))))))))))))) (.region [⟨none, 37, (.val (.mv (.s 8))), [8, 36], none, []⟩, ⟨none, 38, (.val (.bin .add (.s 37) (.c (.int .i64 1)))), [37], none, []⟩, ⟨none, 8, (.val (.mv (.s 38))), [38], none, []⟩])))))) (.seq (.region [⟨none, 56, (.val (.mv (.s 7))), [1, 7, 8, 36, 39, 40, 41, 42, 43, 44, 45, 46, 47, 48, 49, 50, 51, 52, 53, 54, 55], none, []⟩, ⟨none, 2, (.val (.mv (.s 56))), [56], none, []⟩, ⟨none, 3, (.val (.mv (.c (.int .i64 0)))), [], none, []⟩]) .ret)))))))
theorem ok33 : FnOk Try.prog 33 cc33 [(.t 2), (.t 3)] 1 57 := ⟨⟨_, Try.func33, by kernel_rfl, by kernel_rfl, by kernel_rfl⟩, by decide, by decide⟩


def recB (r : Int × Int) : List UInt8 := numB (zig r.1) ++ numB (zig r.2)
def recsB (l : List (Int × Int)) : List UInt8 := (l.map recB).flatten
def hdB (b : Bt) : List UInt8 := numB b.loc.toNat ++ timeB b.ep b.d.toNat b.x b.y b.z ++ numB b.l.length
/-- A batch's bytes. -/
def batB (b : Bt) : List UInt8 := hdB b ++ recsB b.l
def okR (r : Int × Int) : Prop := (-9223372036854775808 ≤ r.1 ∧ r.1 < 9223372036854775808) ∧ (-9223372036854775808 ≤ r.2 ∧ r.2 < 9223372036854775808)
theorem recB_len {r : Int × Int} (h : okR r) : (recB r).length ≤ 20 := by
  have h1 := numB_len64 (zig_lt h.1.1 h.1.2)
  have h2 := numB_len64 (zig_lt h.2.1 h.2.2)
  simp only [recB, List.length_append]; omega
theorem recsB_len : ∀ (l : List (Int × Int)), (∀ r ∈ l, okR r) → (recsB l).length ≤ 20 * l.length
  | [], _ => by simp [recsB]
  | r :: l, h => by
    have h1 := recB_len (h r (by simp))
    have h2 := recsB_len l fun r hr => h r (by simp [hr])
    simp only [recsB, List.map_cons, List.flatten_cons, List.length_append, List.length_cons] at h2 ⊢
    omega
theorem recsB_snoc (l : List (Int × Int)) (i : Nat) (r : Int × Int) (h : l[i]? = some r) : recsB (l.take (i + 1)) = recsB (l.take i) ++ recB r := by
  rw [List.take_add_one, h]
  simp [recsB]
def st31 (I : World → Fp → Value → Fp → Prop) (b : Bt) (i : Nat) : St := ⟨[(7, .ref ⟨1007, [], 0⟩), (35, .lst 2 (b.l.map recA)), (36, .v (.int .i64 b.l.length)), (37, .v (.int .i64 i))], [(1007, .agg [.junk, .ext (RowB 5 (hdB b ++ recsB (b.l.take i)))]), (9999, .ext I)], [(1007, 0, .ref ⟨1007, [], 0⟩), (1007, 1, .sa ⟨1007, [], 0⟩ 0 174 2)]⟩
theorem chkB_ok {b : Bt} (h : chkB b = 0) : 0 ≤ b.loc ∧ b.loc ≤ 1000 ∧ chkT b.ep b.d b.x b.y b.z = 0 ∧ 0 < b.l.length ∧ b.l.length ≤ 64 := by
  unfold chkB at h
  split at h
  · simp at h
  · split at h
    · rename_i h2; exact absurd h h2
    · split at h
      · simp at h
      · split at h
        · simp at h
        · rename_i h1 h2 h3 h4
          simp only [ne_eq, Classical.not_not] at h2
          exact ⟨by omega, by omega, h2, by omega, by omega⟩
theorem chkT_ok {ep d x y z : Int} (h : chkT ep d x y z = 0) : 0 ≤ d ∧ d ≤ 3 ∧ ep ≤ 1048576 ∧ x ≤ 1048576 ∧ y ≤ 1048576 ∧ z ≤ 1048576 := by
  unfold chkT at h
  split at h
  · simp at h
  · split at h
    · simp at h
    · omega
theorem c31 (b : Bt) (c : AV) (hc : roL c b.l) (hlen : b.l.length ≤ 1000000) (hr : ∀ r ∈ b.l, okR r) {Q : AV → Al → Prop} (h : Q (.tup [strV (if chkB b = 0 then batB b else []), i64A (chkB b)]) []) : ACalls Try.prog 31 [] [btA b c] Q := by
  refine ok31.N hmix rfl ?_
  intro I
  by_cases hk : chkB b = 0
  · obtain ⟨k1, k2, k3, k4, k5⟩ := chkB_ok hk
    obtain ⟨t1, t2, t3, t4, t5, t6⟩ := chkT_ok k3
    rw [if_pos hk, hk] at h
    have hcl : c = .lst 2 (b.l.map recA) := by
      rcases roL_cases hc with ⟨_, hl⟩ | hl
      · rw [hl] at k4; simp at k4
      · exact hl
    subst hcl
    simp only [cc31, OI0, OI1, OI2, OI3, OI4, OI5, OI6, OI7, OI8, OI9, OI10, OI11, OI12, reduceIte, reduceCtorEq, Nat.reduceAdd, Nat.reduceEqDiff, Nat.reduceBEq, Nat.reduceLT, Nat.reduceLeDiff, Nat.reduceMul, Nat.reduceSub, Int.reduceLE, Int.reduceLT, Int.reduceEq, Int.reduceBEq, Int.reduceBNe, Int.reduceToNat, Int.reduceNeg, Nat.reduceBNe, forall_eq_or_imp, btA]
    refine c34 b _ (.inr rfl) hlen ?_
    rw [hk]
    simp only [OI0, OI1, OI2, OI3, OI4, OI5, OI6, OI7, OI8, OI9, OI10, OI11, OI12, reduceIte, reduceCtorEq, Nat.reduceAdd, Nat.reduceEqDiff, Nat.reduceBEq, Nat.reduceLT, Nat.reduceLeDiff, Nat.reduceMul, Nat.reduceSub, Int.reduceLE, Int.reduceLT, Int.reduceEq, Int.reduceBEq, Int.reduceBNe, Int.reduceToNat, Int.reduceNeg, Nat.reduceBNe, forall_eq_or_imp, i64A]
    obtain ⟨dn, hdn⟩ : ∃ n : Nat, b.d = n := ⟨b.d.toNat, by omega⟩
    obtain ⟨ln, hln⟩ : ∃ n : Nat, b.loc = n := ⟨b.loc.toNat, by omega⟩
    have h108 := fun (Q : AV → Al → Prop) hq => c108 b.ep dn b.x b.y b.z (by omega) (by rw [← hdn]; exact k3) (Q := Q) hq
    rw [hdn]
    refine h108 _ ?_
    have wl : IntKind.u64.wrap (ln : Int) = ln := wrap_u64 (by omega) (by omega)
    have wn : IntKind.u64.wrap (b.l.length : Int) = b.l.length := wrap_u64 (by omega) (by omega)
    rw [hln]
    simp only [OI0, OI1, OI2, OI3, OI4, OI5, OI6, OI7, OI8, OI9, OI10, OI11, OI12, reduceIte, reduceCtorEq, Nat.reduceAdd, Nat.reduceEqDiff, Nat.reduceBEq, Nat.reduceLT, Nat.reduceLeDiff, Nat.reduceMul, Nat.reduceSub, Int.reduceLE, Int.reduceLT, Int.reduceEq, Int.reduceBEq, Int.reduceBNe, Int.reduceToNat, Int.reduceNeg, Nat.reduceBNe, forall_eq_or_imp, strV, i64A]
    have hbt : batB b = numB ln ++ timeB b.ep dn b.x b.y b.z ++ numB b.l.length ++ recsB b.l := by simp only [batB, hdB, hln, hdn, Int.toNat_natCast]
    have hhd : hdB b = numB ln ++ timeB b.ep dn b.x b.y b.z ++ numB b.l.length := by simp only [hdB, hln, hdn, Int.toNat_natCast]
    have l1 := numB_len64 (v := ln) (by omega)
    have l2 := numB_len64 (v := dn) (by omega)
    have l3 := numB_len64 (v := b.ep) (by omega)
    have l4 := numB_len64 (v := b.x) (by omega)
    have l5 := numB_len64 (v := b.y) (by omega)
    have l6 := numB_len64 (v := b.z) (by omega)
    have l7 := numB_len64 (v := b.l.length) (by omega)
    have lt : (timeB b.ep dn b.x b.y b.z).length ≤ 50 := by
      simp only [timeB, List.length_append]
      have : (lpB dn b.x b.y b.z).length ≤ 30 := by
        unfold lpB
        split <;> (try simp only [List.length_append, List.length_nil]) <;> omega
      omega
    have m1 := nmax (n := (numB ln).length + (timeB b.ep dn b.x b.y b.z).length) (by omega)
    have m2 := nmax (n := (numB ln).length + (timeB b.ep dn b.x b.y b.z).length + (numB b.l.length).length) (by omega)
    refine W_drawnCut ok31.small hmix (fun _ : Unit => ⟨[(1, .ref ⟨1001, [], 0⟩), (7, .ref ⟨1007, [], 0⟩)], [(1001, btA b (.lst 2 (b.l.map recA))), (1007, .agg [.junk, .ext (RowB 5 (hdB b))]), (9999, .ext I)], [(1007, 0, .ref ⟨1007, [], 0⟩), (1007, 1, .sa ⟨1007, [], 0⟩ 0 174 2)]⟩) (fun _ => True) (fun _ _ => rfl) ?_ ?_
    · apply NT_sound
      simp only [OI0, OI1, OI2, OI3, OI4, OI5, OI6, OI7, OI8, OI9, OI10, OI11, OI12, reduceIte, reduceCtorEq, Nat.reduceAdd, Nat.reduceEqDiff, Nat.reduceBEq, Nat.reduceLT, Nat.reduceLeDiff, Nat.reduceMul, Nat.reduceSub, Int.reduceLE, Int.reduceLT, Int.reduceEq, Int.reduceBEq, Int.reduceBNe, Int.reduceToNat, Int.reduceNeg, Nat.reduceBNe, forall_eq_or_imp, wl, wn]
      refine ⟨c110 ln (by omega) ?_, c110 ln (by omega) ?_⟩
      · simp only [OI0, OI1, OI2, OI3, OI4, OI5, OI6, OI7, OI8, OI9, OI10, OI11, OI12, reduceIte, reduceCtorEq, Nat.reduceAdd, Nat.reduceEqDiff, Nat.reduceBEq, Nat.reduceLT, Nat.reduceLeDiff, Nat.reduceMul, Nat.reduceSub, Int.reduceLE, Int.reduceLT, Int.reduceEq, Int.reduceBEq, Int.reduceBNe, Int.reduceToNat, Int.reduceNeg, Nat.reduceBNe, forall_eq_or_imp, strV, sz_mk, app_mk, m1, wn]
        refine c110 b.l.length (by omega) ?_
        simp only [OI0, OI1, OI2, OI3, OI4, OI5, OI6, OI7, OI8, OI9, OI10, OI11, OI12, reduceIte, reduceCtorEq, Nat.reduceAdd, Nat.reduceEqDiff, Nat.reduceBEq, Nat.reduceLT, Nat.reduceLeDiff, Nat.reduceMul, Nat.reduceSub, Int.reduceLE, Int.reduceLT, Int.reduceEq, Int.reduceBEq, Int.reduceBNe, Int.reduceToNat, Int.reduceNeg, Nat.reduceBNe, forall_eq_or_imp, strV, sz_mk, app_mk, m2]
        refine c109a _ (by simp) (by simp only [sz_mk, List.length_append]; omega) ?_
        simp only [OI0, OI1, OI2, OI3, OI4, OI5, OI6, OI7, OI8, OI9, OI10, OI11, OI12, reduceIte, reduceCtorEq, Nat.reduceAdd, Nat.reduceEqDiff, Nat.reduceBEq, Nat.reduceLT, Nat.reduceLeDiff, Nat.reduceMul, Nat.reduceSub, Int.reduceLE, Int.reduceLT, Int.reduceEq, Int.reduceBEq, Int.reduceBNe, Int.reduceToNat, Int.reduceNeg, Nat.reduceBNe, forall_eq_or_imp, bldRf]
        refine W_of_N ok31.small hmix ?_
        simp only [OI0, OI1, OI2, OI3, OI4, OI5, OI6, OI7, OI8, OI9, OI10, OI11, OI12, reduceIte, reduceCtorEq, Nat.reduceAdd, Nat.reduceEqDiff, Nat.reduceBEq, Nat.reduceLT, Nat.reduceLeDiff, Nat.reduceMul, Nat.reduceSub, Int.reduceLE, Int.reduceLT, Int.reduceEq, Int.reduceBEq, Int.reduceBNe, Int.reduceToNat, Int.reduceNeg, Nat.reduceBNe, forall_eq_or_imp]
        refine ⟨(), trivial, ?_⟩
        simp only [OI0, OI1, OI2, OI3, OI4, OI5, OI6, OI7, OI8, OI9, OI10, OI11, OI12, reduceIte, reduceCtorEq, Nat.reduceAdd, Nat.reduceEqDiff, Nat.reduceBEq, Nat.reduceLT, Nat.reduceLeDiff, Nat.reduceMul, Nat.reduceSub, Int.reduceLE, Int.reduceLT, Int.reduceEq, Int.reduceBEq, Int.reduceBNe, Int.reduceToNat, Int.reduceNeg, Nat.reduceBNe, forall_eq_or_imp, btA, hhd, hln, hdn, List.append_assoc]
      · simp only [OI0, OI1, OI2, OI3, OI4, OI5, OI6, OI7, OI8, OI9, OI10, OI11, OI12, reduceIte, reduceCtorEq, Nat.reduceAdd, Nat.reduceEqDiff, Nat.reduceBEq, Nat.reduceLT, Nat.reduceLeDiff, Nat.reduceMul, Nat.reduceSub, Int.reduceLE, Int.reduceLT, Int.reduceEq, Int.reduceBEq, Int.reduceBNe, Int.reduceToNat, Int.reduceNeg, Nat.reduceBNe, forall_eq_or_imp, strV, sz_mk, app_mk, m1, wn]
        refine c110 b.l.length (by omega) ?_
        simp only [OI0, OI1, OI2, OI3, OI4, OI5, OI6, OI7, OI8, OI9, OI10, OI11, OI12, reduceIte, reduceCtorEq, Nat.reduceAdd, Nat.reduceEqDiff, Nat.reduceBEq, Nat.reduceLT, Nat.reduceLeDiff, Nat.reduceMul, Nat.reduceSub, Int.reduceLE, Int.reduceLT, Int.reduceEq, Int.reduceBEq, Int.reduceBNe, Int.reduceToNat, Int.reduceNeg, Nat.reduceBNe, forall_eq_or_imp, strV, sz_mk, app_mk, m2]
        refine c109a _ (by simp) (by simp only [sz_mk, List.length_append]; omega) ?_
        simp only [OI0, OI1, OI2, OI3, OI4, OI5, OI6, OI7, OI8, OI9, OI10, OI11, OI12, reduceIte, reduceCtorEq, Nat.reduceAdd, Nat.reduceEqDiff, Nat.reduceBEq, Nat.reduceLT, Nat.reduceLeDiff, Nat.reduceMul, Nat.reduceSub, Int.reduceLE, Int.reduceLT, Int.reduceEq, Int.reduceBEq, Int.reduceBNe, Int.reduceToNat, Int.reduceNeg, Nat.reduceBNe, forall_eq_or_imp, bldRf]
        refine W_of_N ok31.small hmix ?_
        simp only [OI0, OI1, OI2, OI3, OI4, OI5, OI6, OI7, OI8, OI9, OI10, OI11, OI12, reduceIte, reduceCtorEq, Nat.reduceAdd, Nat.reduceEqDiff, Nat.reduceBEq, Nat.reduceLT, Nat.reduceLeDiff, Nat.reduceMul, Nat.reduceSub, Int.reduceLE, Int.reduceLT, Int.reduceEq, Int.reduceBEq, Int.reduceBNe, Int.reduceToNat, Int.reduceNeg, Nat.reduceBNe, forall_eq_or_imp]
        refine ⟨(), trivial, ?_⟩
        simp only [OI0, OI1, OI2, OI3, OI4, OI5, OI6, OI7, OI8, OI9, OI10, OI11, OI12, reduceIte, reduceCtorEq, Nat.reduceAdd, Nat.reduceEqDiff, Nat.reduceBEq, Nat.reduceLT, Nat.reduceLeDiff, Nat.reduceMul, Nat.reduceSub, Int.reduceLE, Int.reduceLT, Int.reduceEq, Int.reduceBEq, Int.reduceBNe, Int.reduceToNat, Int.reduceNeg, Nat.reduceBNe, forall_eq_or_imp, btA, hhd, hln, hdn, List.append_assoc]
    · intro _ _
      refine W_of_N ok31.small hmix ?_
      simp only [OI0, OI1, OI2, OI3, OI4, OI5, OI6, OI7, OI8, OI9, OI10, OI11, OI12, reduceIte, reduceCtorEq, Nat.reduceAdd, Nat.reduceEqDiff, Nat.reduceBEq, Nat.reduceLT, Nat.reduceLeDiff, Nat.reduceMul, Nat.reduceSub, Int.reduceLE, Int.reduceLT, Int.reduceEq, Int.reduceBEq, Int.reduceBNe, Int.reduceToNat, Int.reduceNeg, Nat.reduceBNe, forall_eq_or_imp, btA]
      refine W_loop (st31 I b) (fun i => i ≤ b.l.length) (fun i => b.l.length - i) (fun _ _ => rfl) ⟨0, by omega, ?_⟩ ?_
      · simp only [OI0, OI1, OI2, OI3, OI4, OI5, OI6, OI7, OI8, OI9, OI10, OI11, OI12, reduceIte, reduceCtorEq, Nat.reduceAdd, Nat.reduceEqDiff, Nat.reduceBEq, Nat.reduceLT, Nat.reduceLeDiff, Nat.reduceMul, Nat.reduceSub, Int.reduceLE, Int.reduceLT, Int.reduceEq, Int.reduceBEq, Int.reduceBNe, Int.reduceToNat, Int.reduceNeg, Nat.reduceBNe, forall_eq_or_imp, st31, recsB, List.flatten_nil]
        try rfl
      intro i hi
      refine W_of_N ok31.small hmix ?_
      have hrl := recsB_len (b.l.take i) (fun r hr' => hr r (List.mem_of_mem_take hr'))
      have htl : (b.l.take i).length = i := by simp; omega
      have hhl : (hdB b).length ≤ 70 := by rw [hhd]; simp only [List.length_append]; omega
      by_cases hil : i < b.l.length
      · have hil' : (i : Int) < b.l.length := by omega
        have i0 : (0 : Int) ≤ i := by omega
        have hgi : b.l[i]? = some b.l[i] := List.getElem?_eq_getElem hil
        have hri := hr _ (List.getElem_mem hil)
        have hsn := recsB_snoc b.l i _ hgi
        generalize b.l[i] = r at hgi hri hsn
        obtain ⟨ra, rb⟩ := r
        have n1 := numB_len64 (zig_lt hri.1.1 hri.1.2)
        have n2 := numB_len64 (zig_lt hri.2.1 hri.2.2)
        have m3 := nmax (n := (numB (zig ra)).length + (numB (zig rb)).length) (by simp only at n1 n2; omega)
        have w1 : IntKind.i64.wrap ((i : Int) + 1) = ((i + 1 : Nat) : Int) := by rw [wrap_i64 (by omega) (by omega)]; omega
        simp only [OI0, OI1, OI2, OI3, OI4, OI5, OI6, OI7, OI8, OI9, OI10, OI11, OI12, reduceIte, reduceCtorEq, Nat.reduceAdd, Nat.reduceEqDiff, Nat.reduceBEq, Nat.reduceLT, Nat.reduceLeDiff, Nat.reduceMul, Nat.reduceSub, Int.reduceLE, Int.reduceLT, Int.reduceEq, Int.reduceBEq, Int.reduceBNe, Int.reduceToNat, Int.reduceNeg, Nat.reduceBNe, forall_eq_or_imp, st31, hil', i0, hgi, recA]
        refine W_drawn ok31.small hmix (NT_sound _ ?_)
        simp only [OI0, OI1, OI2, OI3, OI4, OI5, OI6, OI7, OI8, OI9, OI10, OI11, OI12, reduceIte, reduceCtorEq, Nat.reduceAdd, Nat.reduceEqDiff, Nat.reduceBEq, Nat.reduceLT, Nat.reduceLeDiff, Nat.reduceMul, Nat.reduceSub, Int.reduceLE, Int.reduceLT, Int.reduceEq, Int.reduceBEq, Int.reduceBNe, Int.reduceToNat, Int.reduceNeg, Nat.reduceBNe, forall_eq_or_imp]
        refine ⟨c111 ra hri.1.1 hri.1.2 ?_, c111 ra hri.1.1 hri.1.2 ?_⟩ <;>
        · simp only [OI0, OI1, OI2, OI3, OI4, OI5, OI6, OI7, OI8, OI9, OI10, OI11, OI12, reduceIte, reduceCtorEq, Nat.reduceAdd, Nat.reduceEqDiff, Nat.reduceBEq, Nat.reduceLT, Nat.reduceLeDiff, Nat.reduceMul, Nat.reduceSub, Int.reduceLE, Int.reduceLT, Int.reduceEq, Int.reduceBEq, Int.reduceBNe, Int.reduceToNat, Int.reduceNeg, Nat.reduceBNe, forall_eq_or_imp, strV]
          refine c111 rb hri.2.1 hri.2.2 ?_
          simp only [OI0, OI1, OI2, OI3, OI4, OI5, OI6, OI7, OI8, OI9, OI10, OI11, OI12, reduceIte, reduceCtorEq, Nat.reduceAdd, Nat.reduceEqDiff, Nat.reduceBEq, Nat.reduceLT, Nat.reduceLeDiff, Nat.reduceMul, Nat.reduceSub, Int.reduceLE, Int.reduceLT, Int.reduceEq, Int.reduceBEq, Int.reduceBNe, Int.reduceToNat, Int.reduceNeg, Nat.reduceBNe, forall_eq_or_imp, strV, sz_mk, app_mk, m3]
          refine c109b _ _ (by simp) (by simp) (by simp only [sz_mk, List.length_append]; simp only at n1 n2; omega) ?_
          simp only [OI0, OI1, OI2, OI3, OI4, OI5, OI6, OI7, OI8, OI9, OI10, OI11, OI12, reduceIte, reduceCtorEq, Nat.reduceAdd, Nat.reduceEqDiff, Nat.reduceBEq, Nat.reduceLT, Nat.reduceLeDiff, Nat.reduceMul, Nat.reduceSub, Int.reduceLE, Int.reduceLT, Int.reduceEq, Int.reduceBEq, Int.reduceBNe, Int.reduceToNat, Int.reduceNeg, Nat.reduceBNe, forall_eq_or_imp, bldRf]
          refine W_of_N ok31.small hmix ?_
          simp only [OI0, OI1, OI2, OI3, OI4, OI5, OI6, OI7, OI8, OI9, OI10, OI11, OI12, reduceIte, reduceCtorEq, Nat.reduceAdd, Nat.reduceEqDiff, Nat.reduceBEq, Nat.reduceLT, Nat.reduceLeDiff, Nat.reduceMul, Nat.reduceSub, Int.reduceLE, Int.reduceLT, Int.reduceEq, Int.reduceBEq, Int.reduceBNe, Int.reduceToNat, Int.reduceNeg, Nat.reduceBNe, forall_eq_or_imp, w1]
          refine ⟨i + 1, ⟨by omega, by omega⟩, ?_⟩
          simp only [OI0, OI1, OI2, OI3, OI4, OI5, OI6, OI7, OI8, OI9, OI10, OI11, OI12, reduceIte, reduceCtorEq, Nat.reduceAdd, Nat.reduceEqDiff, Nat.reduceBEq, Nat.reduceLT, Nat.reduceLeDiff, Nat.reduceMul, Nat.reduceSub, Int.reduceLE, Int.reduceLT, Int.reduceEq, Int.reduceBEq, Int.reduceBNe, Int.reduceToNat, Int.reduceNeg, Nat.reduceBNe, forall_eq_or_imp, st31, hsn, recB, List.append_assoc]
      · obtain rfl : i = b.l.length := by omega
        simp only [OI0, OI1, OI2, OI3, OI4, OI5, OI6, OI7, OI8, OI9, OI10, OI11, OI12, reduceIte, reduceCtorEq, Nat.reduceAdd, Nat.reduceEqDiff, Nat.reduceBEq, Nat.reduceLT, Nat.reduceLeDiff, Nat.reduceMul, Nat.reduceSub, Int.reduceLE, Int.reduceLT, Int.reduceEq, Int.reduceBEq, Int.reduceBNe, Int.reduceToNat, Int.reduceNeg, Nat.reduceBNe, forall_eq_or_imp, st31, Int.lt_irrefl, List.take_length]
        refine c112 _ (by simp) ?_
        simp only [OI0, OI1, OI2, OI3, OI4, OI5, OI6, OI7, OI8, OI9, OI10, OI11, OI12, reduceIte, reduceCtorEq, Nat.reduceAdd, Nat.reduceEqDiff, Nat.reduceBEq, Nat.reduceLT, Nat.reduceLeDiff, Nat.reduceMul, Nat.reduceSub, Int.reduceLE, Int.reduceLT, Int.reduceEq, Int.reduceBEq, Int.reduceBNe, Int.reduceToNat, Int.reduceNeg, Nat.reduceBNe, forall_eq_or_imp]
        simpa [batB, strV, i64A] using h
  · rw [if_neg hk] at h
    have hb : (chkB b != 0) = true := by simpa using hk
    rcases roL_cases hc with ⟨rfl, hl⟩ | rfl
    · simp only [cc31, OI0, OI1, OI2, OI3, OI4, OI5, OI6, OI7, OI8, OI9, OI10, OI11, OI12, reduceIte, reduceCtorEq, Nat.reduceAdd, Nat.reduceEqDiff, Nat.reduceBEq, Nat.reduceLT, Nat.reduceLeDiff, Nat.reduceMul, Nat.reduceSub, Int.reduceLE, Int.reduceLT, Int.reduceEq, Int.reduceBEq, Int.reduceBNe, Int.reduceToNat, Int.reduceNeg, Nat.reduceBNe, forall_eq_or_imp, btA]
      refine c34 b _ hc hlen ?_
      simp only [OI0, OI1, OI2, OI3, OI4, OI5, OI6, OI7, OI8, OI9, OI10, OI11, OI12, reduceIte, reduceCtorEq, Nat.reduceAdd, Nat.reduceEqDiff, Nat.reduceBEq, Nat.reduceLT, Nat.reduceLeDiff, Nat.reduceMul, Nat.reduceSub, Int.reduceLE, Int.reduceLT, Int.reduceEq, Int.reduceBEq, Int.reduceBNe, Int.reduceToNat, Int.reduceNeg, Nat.reduceBNe, forall_eq_or_imp, i64A, hb]
      exact h
    · simp only [cc31, OI0, OI1, OI2, OI3, OI4, OI5, OI6, OI7, OI8, OI9, OI10, OI11, OI12, reduceIte, reduceCtorEq, Nat.reduceAdd, Nat.reduceEqDiff, Nat.reduceBEq, Nat.reduceLT, Nat.reduceLeDiff, Nat.reduceMul, Nat.reduceSub, Int.reduceLE, Int.reduceLT, Int.reduceEq, Int.reduceBEq, Int.reduceBNe, Int.reduceToNat, Int.reduceNeg, Nat.reduceBNe, forall_eq_or_imp, btA]
      refine c34 b _ hc hlen ?_
      simp only [OI0, OI1, OI2, OI3, OI4, OI5, OI6, OI7, OI8, OI9, OI10, OI11, OI12, reduceIte, reduceCtorEq, Nat.reduceAdd, Nat.reduceEqDiff, Nat.reduceBEq, Nat.reduceLT, Nat.reduceLeDiff, Nat.reduceMul, Nat.reduceSub, Int.reduceLE, Int.reduceLT, Int.reduceEq, Int.reduceBEq, Int.reduceBNe, Int.reduceToNat, Int.reduceNeg, Nat.reduceBNe, forall_eq_or_imp, i64A, hb]
      exact h
def st33 (I : World → Fp → Value → Fp → Prop) (b : Bt) (i : Nat) : St := ⟨[(1, .ref ⟨1001, [], 0⟩), (7, strV (hdB b ++ recsB (b.l.take i))), (8, .v (.int .i64 i))], [(1001, btA b (.lst 2 (b.l.map recA))), (9999, .ext I)], []⟩
theorem c33 (b : Bt) (c : AV) (hc : roL c b.l) (hlen : b.l.length ≤ 1000000) (hr : ∀ r ∈ b.l, okR r) {Q : AV → Al → Prop} (h : Q (.tup [strV (if chkB b = 0 then batB b else []), i64A (chkB b)]) []) : ACalls Try.prog 33 [] [btA b c] Q := by
  refine ok33.N hmix rfl ?_
  intro I
  by_cases hk : chkB b = 0
  · obtain ⟨k1, k2, k3, k4, k5⟩ := chkB_ok hk
    obtain ⟨t1, t2, t3, t4, t5, t6⟩ := chkT_ok k3
    rw [if_pos hk, hk] at h
    have hcl : c = .lst 2 (b.l.map recA) := by
      rcases roL_cases hc with ⟨_, hl⟩ | hl
      · rw [hl] at k4; simp at k4
      · exact hl
    subst hcl
    simp only [cc33, OI0, OI1, OI2, OI3, OI4, OI5, OI6, OI7, OI8, OI9, OI10, OI11, OI12, reduceIte, reduceCtorEq, Nat.reduceAdd, Nat.reduceEqDiff, Nat.reduceBEq, Nat.reduceLT, Nat.reduceLeDiff, Nat.reduceMul, Nat.reduceSub, Int.reduceLE, Int.reduceLT, Int.reduceEq, Int.reduceBEq, Int.reduceBNe, Int.reduceToNat, Int.reduceNeg, Nat.reduceBNe, forall_eq_or_imp, btA]
    refine c35 b _ (.inr rfl) hlen ?_
    rw [hk]
    simp only [OI0, OI1, OI2, OI3, OI4, OI5, OI6, OI7, OI8, OI9, OI10, OI11, OI12, reduceIte, reduceCtorEq, Nat.reduceAdd, Nat.reduceEqDiff, Nat.reduceBEq, Nat.reduceLT, Nat.reduceLeDiff, Nat.reduceMul, Nat.reduceSub, Int.reduceLE, Int.reduceLT, Int.reduceEq, Int.reduceBEq, Int.reduceBNe, Int.reduceToNat, Int.reduceNeg, Nat.reduceBNe, forall_eq_or_imp, i64A]
    obtain ⟨dn, hdn⟩ : ∃ n : Nat, b.d = n := ⟨b.d.toNat, by omega⟩
    obtain ⟨ln, hln⟩ : ∃ n : Nat, b.loc = n := ⟨b.loc.toNat, by omega⟩
    have h113 := fun (Q : AV → Al → Prop) hq => c113 b.ep dn b.x b.y b.z (by omega) (by rw [← hdn]; exact k3) (Q := Q) hq
    rw [hdn]
    refine h113 _ ?_
    have wl : IntKind.u64.wrap (ln : Int) = ln := wrap_u64 (by omega) (by omega)
    have wn : IntKind.u64.wrap (b.l.length : Int) = b.l.length := wrap_u64 (by omega) (by omega)
    rw [hln]
    simp only [OI0, OI1, OI2, OI3, OI4, OI5, OI6, OI7, OI8, OI9, OI10, OI11, OI12, reduceIte, reduceCtorEq, Nat.reduceAdd, Nat.reduceEqDiff, Nat.reduceBEq, Nat.reduceLT, Nat.reduceLeDiff, Nat.reduceMul, Nat.reduceSub, Int.reduceLE, Int.reduceLT, Int.reduceEq, Int.reduceBEq, Int.reduceBNe, Int.reduceToNat, Int.reduceNeg, Nat.reduceBNe, forall_eq_or_imp, strV, i64A]
    have hhd : hdB b = numB ln ++ timeB b.ep dn b.x b.y b.z ++ numB b.l.length := by simp only [hdB, hln, hdn, Int.toNat_natCast]
    have l1 := numB_len64 (v := ln) (by omega)
    have l2 := numB_len64 (v := dn) (by omega)
    have l3 := numB_len64 (v := b.ep) (by omega)
    have l4 := numB_len64 (v := b.x) (by omega)
    have l5 := numB_len64 (v := b.y) (by omega)
    have l6 := numB_len64 (v := b.z) (by omega)
    have l7 := numB_len64 (v := b.l.length) (by omega)
    have lt : (timeB b.ep dn b.x b.y b.z).length ≤ 50 := by
      simp only [timeB, List.length_append]
      have : (lpB dn b.x b.y b.z).length ≤ 30 := by
        unfold lpB
        split <;> (try simp only [List.length_append, List.length_nil]) <;> omega
      omega
    have hhl : (hdB b).length ≤ 70 := by rw [hhd]; simp only [List.length_append]; omega
    have m1 := nmax (n := (numB ln).length + (timeB b.ep dn b.x b.y b.z).length) (by omega)
    have m2 := nmax (n := (numB ln).length + (timeB b.ep dn b.x b.y b.z).length + (numB b.l.length).length) (by omega)
    refine W_drawnCut ok33.small hmix (fun _ : Unit => ⟨[(1, .ref ⟨1001, [], 0⟩), (7, strV (hdB b))], [(1001, btA b (.lst 2 (b.l.map recA))), (9999, .ext I)], []⟩) (fun _ => True) (fun _ _ => rfl) ?_ ?_
    · apply NT_sound
      simp only [OI0, OI1, OI2, OI3, OI4, OI5, OI6, OI7, OI8, OI9, OI10, OI11, OI12, reduceIte, reduceCtorEq, Nat.reduceAdd, Nat.reduceEqDiff, Nat.reduceBEq, Nat.reduceLT, Nat.reduceLeDiff, Nat.reduceMul, Nat.reduceSub, Int.reduceLE, Int.reduceLT, Int.reduceEq, Int.reduceBEq, Int.reduceBNe, Int.reduceToNat, Int.reduceNeg, Nat.reduceBNe, forall_eq_or_imp, wl, wn]
      refine ⟨c114 ln (by omega) ?_, c114 ln (by omega) ?_⟩ <;>
      · simp only [OI0, OI1, OI2, OI3, OI4, OI5, OI6, OI7, OI8, OI9, OI10, OI11, OI12, reduceIte, reduceCtorEq, Nat.reduceAdd, Nat.reduceEqDiff, Nat.reduceBEq, Nat.reduceLT, Nat.reduceLeDiff, Nat.reduceMul, Nat.reduceSub, Int.reduceLE, Int.reduceLT, Int.reduceEq, Int.reduceBEq, Int.reduceBNe, Int.reduceToNat, Int.reduceNeg, Nat.reduceBNe, forall_eq_or_imp, strV, sz_mk, app_mk, m1, wn]
        refine c114 b.l.length (by omega) ?_
        simp only [OI0, OI1, OI2, OI3, OI4, OI5, OI6, OI7, OI8, OI9, OI10, OI11, OI12, reduceIte, reduceCtorEq, Nat.reduceAdd, Nat.reduceEqDiff, Nat.reduceBEq, Nat.reduceLT, Nat.reduceLeDiff, Nat.reduceMul, Nat.reduceSub, Int.reduceLE, Int.reduceLT, Int.reduceEq, Int.reduceBEq, Int.reduceBNe, Int.reduceToNat, Int.reduceNeg, Nat.reduceBNe, forall_eq_or_imp, strV, sz_mk, app_mk, m2]
        refine W_of_N ok33.small hmix ?_
        simp only [OI0, OI1, OI2, OI3, OI4, OI5, OI6, OI7, OI8, OI9, OI10, OI11, OI12, reduceIte, reduceCtorEq, Nat.reduceAdd, Nat.reduceEqDiff, Nat.reduceBEq, Nat.reduceLT, Nat.reduceLeDiff, Nat.reduceMul, Nat.reduceSub, Int.reduceLE, Int.reduceLT, Int.reduceEq, Int.reduceBEq, Int.reduceBNe, Int.reduceToNat, Int.reduceNeg, Nat.reduceBNe, forall_eq_or_imp]
        refine ⟨(), trivial, ?_⟩
        simp only [OI0, OI1, OI2, OI3, OI4, OI5, OI6, OI7, OI8, OI9, OI10, OI11, OI12, reduceIte, reduceCtorEq, Nat.reduceAdd, Nat.reduceEqDiff, Nat.reduceBEq, Nat.reduceLT, Nat.reduceLeDiff, Nat.reduceMul, Nat.reduceSub, Int.reduceLE, Int.reduceLT, Int.reduceEq, Int.reduceBEq, Int.reduceBNe, Int.reduceToNat, Int.reduceNeg, Nat.reduceBNe, forall_eq_or_imp, btA, hhd, hln, hdn, List.append_assoc, strV]
    · intro _ _
      refine W_of_N ok33.small hmix ?_
      simp only [OI0, OI1, OI2, OI3, OI4, OI5, OI6, OI7, OI8, OI9, OI10, OI11, OI12, reduceIte, reduceCtorEq, Nat.reduceAdd, Nat.reduceEqDiff, Nat.reduceBEq, Nat.reduceLT, Nat.reduceLeDiff, Nat.reduceMul, Nat.reduceSub, Int.reduceLE, Int.reduceLT, Int.reduceEq, Int.reduceBEq, Int.reduceBNe, Int.reduceToNat, Int.reduceNeg, Nat.reduceBNe, forall_eq_or_imp, btA]
      refine W_loop (st33 I b) (fun i => i ≤ b.l.length) (fun i => b.l.length - i) (fun _ _ => rfl) ⟨0, by omega, ?_⟩ ?_
      · simp only [OI0, OI1, OI2, OI3, OI4, OI5, OI6, OI7, OI8, OI9, OI10, OI11, OI12, reduceIte, reduceCtorEq, Nat.reduceAdd, Nat.reduceEqDiff, Nat.reduceBEq, Nat.reduceLT, Nat.reduceLeDiff, Nat.reduceMul, Nat.reduceSub, Int.reduceLE, Int.reduceLT, Int.reduceEq, Int.reduceBEq, Int.reduceBNe, Int.reduceToNat, Int.reduceNeg, Nat.reduceBNe, forall_eq_or_imp, st33, recsB, btA, strV, List.flatten_nil]
        try rfl
      intro i hi
      refine W_of_N ok33.small hmix ?_
      have hrl := recsB_len (b.l.take i) (fun r hr' => hr r (List.mem_of_mem_take hr'))
      have htl : (b.l.take i).length = i := by simp; omega
      by_cases hil : i < b.l.length
      · have hil' : (i : Int) < b.l.length := by omega
        have i0 : (0 : Int) ≤ i := by omega
        have hgi : b.l[i]? = some b.l[i] := List.getElem?_eq_getElem hil
        have hri := hr _ (List.getElem_mem hil)
        have hsn := recsB_snoc b.l i _ hgi
        generalize b.l[i] = r at hgi hri hsn
        obtain ⟨ra, rb⟩ := r
        have n1 := numB_len64 (zig_lt hri.1.1 hri.1.2)
        have n2 := numB_len64 (zig_lt hri.2.1 hri.2.2)
        simp only at n1 n2
        have m3 := nmax (n := (hdB b).length + (recsB (b.l.take i)).length + (numB (zig ra)).length) (by omega)
        have m4 := nmax (n := (hdB b).length + ((recsB (b.l.take i)).length + (numB (zig ra)).length) + (numB (zig rb)).length) (by omega)
        have m5 := nmax (n := (hdB b).length + (recsB (b.l.take i)).length + (numB (zig ra)).length + (numB (zig rb)).length) (by omega)
        have w1 : IntKind.i64.wrap ((i : Int) + 1) = ((i + 1 : Nat) : Int) := by rw [wrap_i64 (by omega) (by omega)]; omega
        simp only [OI0, OI1, OI2, OI3, OI4, OI5, OI6, OI7, OI8, OI9, OI10, OI11, OI12, reduceIte, reduceCtorEq, Nat.reduceAdd, Nat.reduceEqDiff, Nat.reduceBEq, Nat.reduceLT, Nat.reduceLeDiff, Nat.reduceMul, Nat.reduceSub, Int.reduceLE, Int.reduceLT, Int.reduceEq, Int.reduceBEq, Int.reduceBNe, Int.reduceToNat, Int.reduceNeg, Nat.reduceBNe, forall_eq_or_imp, st33, btA, strV, hil', i0, hgi, recA]
        refine W_drawn ok33.small hmix (NT_sound _ ?_)
        simp only [OI0, OI1, OI2, OI3, OI4, OI5, OI6, OI7, OI8, OI9, OI10, OI11, OI12, reduceIte, reduceCtorEq, Nat.reduceAdd, Nat.reduceEqDiff, Nat.reduceBEq, Nat.reduceLT, Nat.reduceLeDiff, Nat.reduceMul, Nat.reduceSub, Int.reduceLE, Int.reduceLT, Int.reduceEq, Int.reduceBEq, Int.reduceBNe, Int.reduceToNat, Int.reduceNeg, Nat.reduceBNe, forall_eq_or_imp, hil', i0, hgi, recA]
        refine ⟨c115 ra hri.1.1 hri.1.2 ?_, c115 ra hri.1.1 hri.1.2 ?_, c115 ra hri.1.1 hri.1.2 ?_⟩ <;>
        · simp only [OI0, OI1, OI2, OI3, OI4, OI5, OI6, OI7, OI8, OI9, OI10, OI11, OI12, reduceIte, reduceCtorEq, Nat.reduceAdd, Nat.reduceEqDiff, Nat.reduceBEq, Nat.reduceLT, Nat.reduceLeDiff, Nat.reduceMul, Nat.reduceSub, Int.reduceLE, Int.reduceLT, Int.reduceEq, Int.reduceBEq, Int.reduceBNe, Int.reduceToNat, Int.reduceNeg, Nat.reduceBNe, forall_eq_or_imp, strV, sz_mk, app_mk, m3, hil', i0, hgi, recA]
          refine c115 rb hri.2.1 hri.2.2 ?_
          simp only [OI0, OI1, OI2, OI3, OI4, OI5, OI6, OI7, OI8, OI9, OI10, OI11, OI12, reduceIte, reduceCtorEq, Nat.reduceAdd, Nat.reduceEqDiff, Nat.reduceBEq, Nat.reduceLT, Nat.reduceLeDiff, Nat.reduceMul, Nat.reduceSub, Int.reduceLE, Int.reduceLT, Int.reduceEq, Int.reduceBEq, Int.reduceBNe, Int.reduceToNat, Int.reduceNeg, Nat.reduceBNe, forall_eq_or_imp, strV, sz_mk, app_mk, m4, m5]
          refine W_of_N ok33.small hmix ?_
          simp only [OI0, OI1, OI2, OI3, OI4, OI5, OI6, OI7, OI8, OI9, OI10, OI11, OI12, reduceIte, reduceCtorEq, Nat.reduceAdd, Nat.reduceEqDiff, Nat.reduceBEq, Nat.reduceLT, Nat.reduceLeDiff, Nat.reduceMul, Nat.reduceSub, Int.reduceLE, Int.reduceLT, Int.reduceEq, Int.reduceBEq, Int.reduceBNe, Int.reduceToNat, Int.reduceNeg, Nat.reduceBNe, forall_eq_or_imp, w1]
          refine ⟨i + 1, ⟨by omega, by omega⟩, ?_⟩
          simp only [OI0, OI1, OI2, OI3, OI4, OI5, OI6, OI7, OI8, OI9, OI10, OI11, OI12, reduceIte, reduceCtorEq, Nat.reduceAdd, Nat.reduceEqDiff, Nat.reduceBEq, Nat.reduceLT, Nat.reduceLeDiff, Nat.reduceMul, Nat.reduceSub, Int.reduceLE, Int.reduceLT, Int.reduceEq, Int.reduceBEq, Int.reduceBNe, Int.reduceToNat, Int.reduceNeg, Nat.reduceBNe, forall_eq_or_imp, st33, btA, strV, hsn, recB, List.append_assoc]
      · obtain rfl : i = b.l.length := by omega
        simp only [OI0, OI1, OI2, OI3, OI4, OI5, OI6, OI7, OI8, OI9, OI10, OI11, OI12, reduceIte, reduceCtorEq, Nat.reduceAdd, Nat.reduceEqDiff, Nat.reduceBEq, Nat.reduceLT, Nat.reduceLeDiff, Nat.reduceMul, Nat.reduceSub, Int.reduceLE, Int.reduceLT, Int.reduceEq, Int.reduceBEq, Int.reduceBNe, Int.reduceToNat, Int.reduceNeg, Nat.reduceBNe, forall_eq_or_imp, st33, btA, strV, Int.lt_irrefl, List.take_length]
        simpa [batB, strV, i64A] using h
  · rw [if_neg hk] at h
    have hb : (chkB b != 0) = true := by simpa using hk
    rcases roL_cases hc with ⟨rfl, hl⟩ | rfl
    · simp only [cc33, OI0, OI1, OI2, OI3, OI4, OI5, OI6, OI7, OI8, OI9, OI10, OI11, OI12, reduceIte, reduceCtorEq, Nat.reduceAdd, Nat.reduceEqDiff, Nat.reduceBEq, Nat.reduceLT, Nat.reduceLeDiff, Nat.reduceMul, Nat.reduceSub, Int.reduceLE, Int.reduceLT, Int.reduceEq, Int.reduceBEq, Int.reduceBNe, Int.reduceToNat, Int.reduceNeg, Nat.reduceBNe, forall_eq_or_imp, btA]
      refine c35 b _ hc hlen ?_
      simp only [OI0, OI1, OI2, OI3, OI4, OI5, OI6, OI7, OI8, OI9, OI10, OI11, OI12, reduceIte, reduceCtorEq, Nat.reduceAdd, Nat.reduceEqDiff, Nat.reduceBEq, Nat.reduceLT, Nat.reduceLeDiff, Nat.reduceMul, Nat.reduceSub, Int.reduceLE, Int.reduceLT, Int.reduceEq, Int.reduceBEq, Int.reduceBNe, Int.reduceToNat, Int.reduceNeg, Nat.reduceBNe, forall_eq_or_imp, i64A, hb]
      exact h
    · simp only [cc33, OI0, OI1, OI2, OI3, OI4, OI5, OI6, OI7, OI8, OI9, OI10, OI11, OI12, reduceIte, reduceCtorEq, Nat.reduceAdd, Nat.reduceEqDiff, Nat.reduceBEq, Nat.reduceLT, Nat.reduceLeDiff, Nat.reduceMul, Nat.reduceSub, Int.reduceLE, Int.reduceLT, Int.reduceEq, Int.reduceBEq, Int.reduceBNe, Int.reduceToNat, Int.reduceNeg, Nat.reduceBNe, forall_eq_or_imp, btA]
      refine c35 b _ hc hlen ?_
      simp only [OI0, OI1, OI2, OI3, OI4, OI5, OI6, OI7, OI8, OI9, OI10, OI11, OI12, reduceIte, reduceCtorEq, Nat.reduceAdd, Nat.reduceEqDiff, Nat.reduceBEq, Nat.reduceLT, Nat.reduceLeDiff, Nat.reduceMul, Nat.reduceSub, Int.reduceLE, Int.reduceLT, Int.reduceEq, Int.reduceBEq, Int.reduceBNe, Int.reduceToNat, Int.reduceNeg, Nat.reduceBNe, forall_eq_or_imp, i64A, hb]
      exact h
end Go.Proofs.Ythlehngbadianaa.Ow
