/- The walk over a compact code. -/
import Derived.Test.YthlehngbadianaaOwVc2
set_option linter.unusedVariables false
set_option linter.unusedSimpArgs false
set_option linter.unnecessarySimpa false
namespace Go.Proofs.Ythlehngbadianaa.Ow
open Go Go.RowKit

inductive Kn where
  | c (x : CC)
  | b (id : Nat)
  | o (l : List CO)
  | i (I : Post)
  | t (t : PT)

/-- Shown of each code that is compiled to it. -/
def CW (P : Program) (n : Nat) (x : CC) (st : St) (Q : Exit → Post) : Prop := ∀ code, compC P n code = some x.strip → AW P n code st Q

def semQ (P : Program) (n : Nat) : List Kn → (Exit → Post) → Exit → Post
  | [], Q, e => Q e
  | .c x :: ks, Q, .normal => fun st => CW P n x st (semQ P n ks Q)
  | .c _ :: ks, Q, e => semQ P n ks Q e
  | .o l :: ks, Q, .normal => fun st => semL P l st (semQ P n ks Q .normal)
  | .o _ :: ks, Q, e => semQ P n ks Q e
  | .t t :: ks, Q, .normal => fun st => semT P t st (semQ P n ks Q .normal)
  | .t _ :: ks, Q, e => semQ P n ks Q e
  | .i I :: _, _, .normal => I
  | .i _ :: ks, Q, e => semQ P n ks Q e
  | .b id :: ks, Q, e => blockQ id (semQ P n ks Q) e

/-- What is to be shown: of the rest of a code, at a state. -/
def W (P : Program) (n : Nat) (ks : List Kn) (Q : Exit → Post) (st : St) : Prop := semQ P n ks Q .normal st
def WS (P : Program) (n : Nat) (ks : List Kn) (Q : Exit → Post) : Option St → Prop
  | some st => W P n ks Q st
  | none => False

def exitTo (id : Nat) : List Kn → Option (List Kn)
  | [] => none
  | .b id' :: ks => if id = id' then some ks else exitTo id ks
  | .c _ :: ks => exitTo id ks
  | .o _ :: ks => exitTo id ks
  | .i _ :: ks => exitTo id ks
  | .t _ :: ks => exitTo id ks

theorem semQ_exit {P : Program} {n : Nat} {id : Nat} : ∀ (ks : List Kn) (Q : Exit → Post), (∀ ks', exitTo id ks = some ks' → semQ P n ks Q (.exit id) = semQ P n ks' Q .normal) ∧ (exitTo id ks = none → semQ P n ks Q (.exit id) = Q (.exit id))
  | [], Q => ⟨by simp [exitTo], fun _ => rfl⟩
  | .c _ :: ks, Q => semQ_exit ks Q
  | .o _ :: ks, Q => semQ_exit ks Q
  | .i _ :: ks, Q => semQ_exit ks Q
  | .t _ :: ks, Q => semQ_exit ks Q
  | .b id' :: ks, Q => by
    obtain ⟨h1, h2⟩ := semQ_exit (P := P) (n := n) (id := id) ks Q
    simp only [exitTo, semQ, blockQ]
    by_cases h : id = id'
    · subst h; simp
    · rw [if_neg h, if_neg h]; exact ⟨h1, h2⟩
theorem semQ_ret {P : Program} {n : Nat} : ∀ (ks : List Kn) (Q : Exit → Post), semQ P n ks Q .ret = Q .ret
  | [], Q => rfl
  | .c _ :: ks, Q => semQ_ret ks Q
  | .o _ :: ks, Q => semQ_ret ks Q
  | .i _ :: ks, Q => semQ_ret ks Q
  | .t _ :: ks, Q => semQ_ret ks Q
  | .b id' :: ks, Q => by simp only [semQ, blockQ]; exact semQ_ret ks Q

section
variable {P : Program} {n : Nat} {ts : List Nat} {st : St} {Q : Exit → Post} {ks : List Kn}

theorem CW.mono {x : CC} {Q' : Exit → Post} (h : CW P n x st Q) (hq : ∀ e st', Q e st' → Q' e st') : CW P n x st Q' := fun code hc => (h code hc).mono hq

theorem CW_skip (h : Q .normal st) : CW P n .skip st Q := by
  intro code hc
  cases code <;> (try simp only [compC, CC.strip] at hc)
  case skip => exact AW_skip h
  all_goals (first | simp at hc; done | (repeat' split at hc) <;> simp at hc; done | (rename_i dr; cases dr <;> simp only [compC] at hc <;> (repeat' split at hc) <;> simp at hc))
theorem CW_exit {id : Nat} (h : Q (.exit id) st) : CW P n (.exit id) st Q := by
  intro code hc
  cases code <;> (try simp only [compC, CC.strip] at hc)
  case exit => simp only [Option.some.injEq, CC.exit.injEq] at hc; subst hc; exact AW_exit h
  all_goals (first | simp at hc; done | (repeat' split at hc) <;> simp at hc; done | (rename_i dr; cases dr <;> simp only [compC] at hc <;> (repeat' split at hc) <;> simp at hc))
theorem CW_ret (h : Q .ret st) : CW P n .ret st Q := by
  intro code hc
  cases code <;> (try simp only [compC, CC.strip] at hc)
  case ret => exact AW_ret h
  all_goals (first | simp at hc; done | (repeat' split at hc) <;> simp at hc; done | (rename_i dr; cases dr <;> simp only [compC] at hc <;> (repeat' split at hc) <;> simp at hc))
theorem CW_seq {a b : CC} (h : CW P n a st (semQ P n (.c b :: ks) Q)) : CW P n (.seq a b) st (semQ P n ks Q) := by
  intro code hc
  cases code <;> (try simp only [compC, CC.strip] at hc)
  case seq x y =>
    split at hc
    · rename_i a' b' h1 h2
      simp only [Option.some.injEq, CC.seq.injEq] at hc
      obtain ⟨rfl, rfl⟩ := hc
      refine AW_seq ((h x h1).mono ?_)
      intro e st' hq
      cases e <;> first | exact hq | exact hq y h2
    · simp at hc
  all_goals (first | simp at hc; done | (repeat' split at hc) <;> simp at hc; done | (rename_i dr; cases dr <;> simp only [compC] at hc <;> (repeat' split at hc) <;> simp at hc))
theorem CW_block {id : Nat} {a : CC} (h : CW P n a st (semQ P n (.b id :: ks) Q)) : CW P n (.block id a) st (semQ P n ks Q) := by
  intro code hc
  cases code <;> (try simp only [compC, CC.strip] at hc)
  case block id' x =>
    split at hc
    · rename_i a' h1
      simp only [Option.some.injEq, CC.block.injEq] at hc
      obtain ⟨rfl, rfl⟩ := hc
      exact AW_block ((h x h1).mono fun e st' hq => hq)
    · simp at hc
  all_goals (first | simp at hc; done | (repeat' split at hc) <;> simp at hc; done | (rename_i dr; cases dr <;> simp only [compC] at hc <;> (repeat' split at hc) <;> simp at hc))
theorem CW_cond {c : Opd} {a b : CC} {t : Bool} (hc0 : st.ev c = some (.v (.bool t))) (h1 : t = true → CW P n a st Q) (h2 : t = false → CW P n b st Q) : CW P n (.cond c a b) st Q := by
  intro code hc
  cases code <;> (try simp only [compC, CC.strip] at hc)
  case cond c' x y =>
    split at hc
    · rename_i oc a' b' e1 e2 e3
      simp only [Option.some.injEq, CC.cond.injEq] at hc
      obtain ⟨rfl, rfl, rfl⟩ := hc
      refine AW_cond e1 hc0 ?_
      cases t
      · exact h2 rfl y e3
      · exact h1 rfl x e2
    · simp at hc
  all_goals (first | simp at hc; done | (repeat' split at hc) <;> simp at hc; done | (rename_i dr; cases dr <;> simp only [compC] at hc <;> (repeat' split at hc) <;> simp at hc))
theorem CW_region (hn : n ≤ 1000) (hm : P.follows .mixedOrders = true) {l : List CO} (h : semL P l st (Q .normal)) : CW P n (.region l) st Q := by
  intro code hc
  cases code <;> (try simp only [compC, CC.strip] at hc)
  case region id ops draw =>
    cases draw
    · simp only [compC] at hc
      split at hc
      · rename_i l' h1
        simp only [Option.some.injEq, CC.region.injEq] at hc
        subst hc
        exact AW_region (AOps_of hn _ l st h1 h)
      · simp at hc
    · simp only [compC] at hc
      split at hc
      · rename_i hns
        split at hc
        · rename_i l' h1
          simp only [Option.some.injEq, CC.region.injEq] at hc
          subst hc
          rw [planDM_eq _ _ _ (Bits.zero ops.size)] at h1
          exact AW_draw hm (calmI P n ops) (AAny_of hn hns _ _ l st h1 h)
        · split at hc <;> simp at hc
      · simp at hc
  all_goals (first | simp at hc; done | (repeat' split at hc) <;> simp at hc; done | (rename_i dr; cases dr <;> simp only [compC] at hc <;> (repeat' split at hc) <;> simp at hc))
theorem CW_drawn (hn : n ≤ 1000) (hm : P.follows .mixedOrders = true) {t : PT} (h : semT P t st (Q .normal)) : CW P n (.drawn t) st Q := by
  intro code hc
  cases code <;> (try simp only [compC, CC.strip] at hc)
  case region id ops draw =>
    cases draw
    · simp only [compC] at hc
      split at hc <;> simp at hc
    · simp only [compC] at hc
      split at hc
      · rename_i hns
        split at hc
        · simp at hc
        · split at hc
          · rename_i t' h1
            simp only [Option.some.injEq, CC.drawn.injEq] at hc
            subst hc
            rw [planTM_eq _ _ _ (Bits.zero ops.size)] at h1
            exact AW_draw hm (calmI P n ops) (AAny_ofT hn hns _ _ t st h1 h)
          · simp at hc
      · simp at hc
  all_goals (first | simp at hc; done | (repeat' split at hc) <;> simp at hc; done | (rename_i dr; cases dr <;> simp only [compC] at hc <;> (repeat' split at hc) <;> simp at hc))
theorem CW_ghost {x : CC} {st' : St} (hg : Ghost st st') (h : CW P n x st' Q) : CW P n x st Q := fun code hc => AW.ghost hg (h code hc)
end
end Go.Proofs.Ythlehngbadianaa.Ow
