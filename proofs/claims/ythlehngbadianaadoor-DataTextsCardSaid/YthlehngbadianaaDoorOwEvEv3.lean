/- What simp evaluates a walk by: the result is what is left to be shown. -/
import Derived.Test.YthlehngbadianaaDoorOwVc4
set_option linter.unusedVariables false
set_option linter.unusedSimpArgs false
set_option linter.unnecessarySimpa false
namespace Go.Proofs.YthlehngbadianaaDoor.Ow
open Go Go.RowKit
section
variable {P : Program} {n : Nat} {st : St} {Q : Exit → Post} {ks : List Kn}
def condM (P : Program) (n : Nat) (a b : CC) (ks : List Kn) (Q : Exit → Post) (st : St) : Option AV → Prop
  | some (.v (.bool true)) => N P n (.c a :: ks) Q (some st)
  | some (.v (.bool false)) => N P n (.c b :: ks) Q (some st)
  | _ => False
def guardM (P : Program) (n : Nat) (want : Bool) (o : CO) (l : List CO) (ks : List Kn) (Q : Exit → Post) (st : St) : Option AV → Prop
  | some (.v (.bool true)) => if want = true then N P n (.o (o :: l) :: ks) Q (some st) else N P n (.o l :: ks) Q (some (skipO o st))
  | some (.v (.bool false)) => if want = false then N P n (.o (o :: l) :: ks) Q (some st) else N P n (.o l :: ks) Q (some (skipO o st))
  | some (.tup []) => N P n (.o l :: ks) Q (some (skipO o st))
  | _ => False
def exitM (P : Program) (n : Nat) (id : Nat) (Q : Exit → Post) (st : St) : Option (List Kn) → Prop
  | some ks' => N P n ks' Q (some st)
  | none => Q (.exit id) st
/-- Behind a value. -/
def nV (P : Program) (n : Nat) (ks : List Kn) (Q : Exit → Post) (d : Nat) (x : List Nat) (st : St) : Option AV → Prop
  | some z => N P n ks Q (some (dropX x (st.set d z)))
  | none => False
/-- Behind another operation. -/
def nS (P : Program) (n : Nat) (ks : List Kn) (Q : Exit → Post) (x : List Nat) : Option St → Prop
  | some st => N P n ks Q (some (dropX x st))
  | none => False
def tV (P : Program) (n : Nat) (t : PT) (ks : List Kn) (Q : Exit → Post) (d : Nat) (x : List Nat) (st : St) : Option AV → Prop
  | some z => NT P n t ks Q (some (dropX x (st.set d z)))
  | none => False
def tS (P : Program) (n : Nat) (t : PT) (ks : List Kn) (Q : Exit → Post) (x : List Nat) : Option St → Prop
  | some st => NT P n t ks Q (some (dropX x st))
  | none => False
theorem N_none : N P n ks Q none = False := by rw [N.eq_def]
theorem T_none : ∀ {pt : PT}, NT P n pt ks Q none = False := by intro pt; cases pt <;> rfl
theorem nV_eq {d : Nat} {x : List Nat} (o : Option AV) : N P n ks Q ((stV d st o).map (dropX x)) = nV P n ks Q d x st o := by cases o <;> simp [stV, nV, N_none]
theorem nS_eq {x : List Nat} (o : Option St) : N P n ks Q (o.map (dropX x)) = nS P n ks Q x o := by cases o <;> simp [nS, N_none]
theorem tV_eq {t : PT} {d : Nat} {x : List Nat} (o : Option AV) : NT P n t ks Q ((stV d st o).map (dropX x)) = tV P n t ks Q d x st o := by cases o <;> simp [stV, tV, T_none]
theorem tS_eq {t : PT} {x : List Nat} (o : Option St) : NT P n t ks Q (o.map (dropX x)) = tS P n t ks Q x o := by cases o <;> simp [tS, T_none]
theorem nV_some {d : Nat} {x : List Nat} {z : AV} : nV P n ks Q d x st (some z) = N P n ks Q (some (dropX x (st.set d z))) := rfl
theorem nV_none {d : Nat} {x : List Nat} : nV P n ks Q d x st none = False := rfl
theorem nV_ite {d : Nat} {x : List Nat} {c : Prop} [Decidable c] {a b : Option AV} : nV P n ks Q d x st (if c then a else b) = if c then nV P n ks Q d x st a else nV P n ks Q d x st b := by split <;> rfl
theorem nV_bind {α : Type} {d : Nat} {x : List Nat} {o : Option α} {f : α → Option AV} : nV P n ks Q d x st (o.bind f) = ∃ y, o = some y ∧ nV P n ks Q d x st (f y) := by
  cases o <;> simp [nV_none]
theorem nV_map {α : Type} {d : Nat} {x : List Nat} {o : Option α} {f : α → AV} : nV P n ks Q d x st (o.map f) = ∃ y, o = some y ∧ nV P n ks Q d x st (some (f y)) := by
  cases o <;> simp [nV_none]
theorem nV_get {d : Nat} {x : List Nat} {l : List AV} {i : Nat} : nV P n ks Q d x st l[i]? = ∃ y, l[i]? = some y ∧ nV P n ks Q d x st (some y) := by
  cases l[i]? <;> simp [nV_none]
theorem nS_some {x : List Nat} : nS P n ks Q x (some st) = N P n ks Q (some (dropX x st)) := rfl
theorem nS_none {x : List Nat} : nS P n ks Q x none = False := rfl
theorem nS_ite {x : List Nat} {c : Prop} [Decidable c] {a b : Option St} : nS P n ks Q x (if c then a else b) = if c then nS P n ks Q x a else nS P n ks Q x b := by split <;> rfl
theorem nS_bind {α : Type} {x : List Nat} {o : Option α} {f : α → Option St} : nS P n ks Q x (o.bind f) = ∃ y, o = some y ∧ nS P n ks Q x (f y) := by
  cases o <;> simp [nS_none]
theorem nS_map {α : Type} {x : List Nat} {o : Option α} {f : α → St} : nS P n ks Q x (o.map f) = ∃ y, o = some y ∧ nS P n ks Q x (some (f y)) := by
  cases o <;> simp [nS_none]
theorem tV_some {t : PT} {d : Nat} {x : List Nat} {z : AV} : tV P n t ks Q d x st (some z) = NT P n t ks Q (some (dropX x (st.set d z))) := rfl
theorem tV_none {t : PT} {d : Nat} {x : List Nat} : tV P n t ks Q d x st none = False := rfl
theorem tV_ite {t : PT} {d : Nat} {x : List Nat} {c : Prop} [Decidable c] {a b : Option AV} : tV P n t ks Q d x st (if c then a else b) = if c then tV P n t ks Q d x st a else tV P n t ks Q d x st b := by split <;> rfl
theorem tV_bind {α : Type} {t : PT} {d : Nat} {x : List Nat} {o : Option α} {f : α → Option AV} : tV P n t ks Q d x st (o.bind f) = ∃ y, o = some y ∧ tV P n t ks Q d x st (f y) := by
  cases o <;> simp [tV_none]
theorem tV_map {α : Type} {t : PT} {d : Nat} {x : List Nat} {o : Option α} {f : α → AV} : tV P n t ks Q d x st (o.map f) = ∃ y, o = some y ∧ tV P n t ks Q d x st (some (f y)) := by
  cases o <;> simp [tV_none]
theorem tV_get {t : PT} {d : Nat} {x : List Nat} {l : List AV} {i : Nat} : tV P n t ks Q d x st l[i]? = ∃ y, l[i]? = some y ∧ tV P n t ks Q d x st (some y) := by
  cases l[i]? <;> simp [tV_none]
theorem tS_some {t : PT} {x : List Nat} : tS P n t ks Q x (some st) = NT P n t ks Q (some (dropX x st)) := rfl
theorem tS_none {t : PT} {x : List Nat} : tS P n t ks Q x none = False := rfl
theorem tS_ite {t : PT} {x : List Nat} {c : Prop} [Decidable c] {a b : Option St} : tS P n t ks Q x (if c then a else b) = if c then tS P n t ks Q x a else tS P n t ks Q x b := by split <;> rfl
theorem tS_bind {α : Type} {t : PT} {x : List Nat} {o : Option α} {f : α → Option St} : tS P n t ks Q x (o.bind f) = ∃ y, o = some y ∧ tS P n t ks Q x (f y) := by
  cases o <;> simp [tS_none]
theorem tS_map {α : Type} {t : PT} {x : List Nat} {o : Option α} {f : α → St} : tS P n t ks Q x (o.map f) = ∃ y, o = some y ∧ tS P n t ks Q x (some (f y)) := by
  cases o <;> simp [tS_none]
theorem ite_F {c : Prop} [Decidable c] {p : Prop} : (if c then p else False) = (c ∧ p) := by by_cases h : c <;> simp [h]
theorem N_nil : N P n [] Q (some st) = Q .normal st := by rw [N.eq_def]
theorem N_i {I : Post} : N P n (.i I :: ks) Q (some st) = I st := by rw [N.eq_def]
theorem N_b {id : Nat} : N P n (.b id :: ks) Q (some st) = N P n ks Q (some st) := by rw [N.eq_def]
theorem N_o : N P n (.o [] :: ks) Q (some st) = N P n ks Q (some st) := by rw [N.eq_def]
section
variable {d : Nat} {x z : List Nat} {lt : Option Nat} {l : List CO} {pt : PT}
theorem N_op {k : CK} : N P n (.o (⟨none, d, k, x, lt, z⟩ :: l) :: ks) Q (some st) = opN P ⟨none, d, k, x, lt, z⟩ st (fun s => N P n (.o l :: ks) Q s) := by rw [N.eq_def]
theorem T_op {k : CK} : NT P n (.op ⟨none, d, k, x, lt, z⟩ pt) ks Q (some st) = opN P ⟨none, d, k, x, lt, z⟩ st (fun s => NT P n pt ks Q s) := rfl
theorem N_val {e : VE} : N P n (.o (⟨none, d, .val e, x, lt, []⟩ :: l) :: ks) Q (some st) = nV P n (.o l :: ks) Q d x st (veval e st) := by rw [N_op, ← nV_eq]; rfl
theorem T_val {e : VE} : NT P n (.op ⟨none, d, .val e, x, lt, []⟩ pt) ks Q (some st) = tV P n pt ks Q d x st (veval e st) := by rw [T_op, ← tV_eq]; rfl
theorem N_mk {lo co : Opd} {v : Value} {es b : Nat} : N P n (.o (⟨none, d, .mk lo co v es b, x, lt, []⟩ :: l) :: ks) Q (some st) = nS P n (.o l :: ks) Q x (mkFin d v es b st (st.int lo) (st.int co)) := by rw [N_op, ← nS_eq]; rfl
theorem T_mk {lo co : Opd} {v : Value} {es b : Nat} : NT P n (.op ⟨none, d, .mk lo co v es b, x, lt, []⟩ pt) ks Q (some st) = tS P n pt ks Q x (mkFin d v es b st (st.int lo) (st.int co)) := by rw [T_op, ← tS_eq]; rfl
theorem N_lit {es : Nat} {os : List Opd} : N P n (.o (⟨none, d, .lit es os, x, lt, []⟩ :: l) :: ks) Q (some st) = nS P n (.o l :: ks) Q x (litFin d es st (evL st os)) := by rw [N_op, ← nS_eq]; rfl
theorem T_lit {es : Nat} {os : List Opd} : NT P n (.op ⟨none, d, .lit es os, x, lt, []⟩ pt) ks Q (some st) = tS P n pt ks Q x (litFin d es st (evL st os)) := by rw [T_op, ← tS_eq]; rfl
theorem N_app {es b : Nat} {i : Bool} {ox oy : Opd} : N P n (.o (⟨none, d, .app es b i ox oy, x, lt, []⟩ :: l) :: ks) Q (some st) = nS P n (.o l :: ks) Q x (app1 d es b i st (st.ev ox) (st.ev oy)) := by rw [N_op, ← nS_eq]; rfl
theorem T_app {es b : Nat} {i : Bool} {ox oy : Opd} : NT P n (.op ⟨none, d, .app es b i ox oy, x, lt, []⟩ pt) ks Q (some st) = tS P n pt ks Q x (app1 d es b i st (st.ev ox) (st.ev oy)) := by rw [T_op, ← tS_eq]; rfl
theorem N_litE {es : Nat} : N P n (.o (⟨none, d, .litE es, x, lt, []⟩ :: l) :: ks) Q (some st) = N P n (.o l :: ks) Q (some (dropX x ((st.new (1000 + d) (.agg [])).set d (.sa ⟨1000 + d, [], 0⟩ es 0 0)))) := by rw [N_op]; rfl
theorem T_litE {es : Nat} : NT P n (.op ⟨none, d, .litE es, x, lt, []⟩ pt) ks Q (some st) = NT P n pt ks Q (some (dropX x ((st.new (1000 + d) (.agg [])).set d (.sa ⟨1000 + d, [], 0⟩ es 0 0)))) := by rw [T_op]; rfl
theorem N_appE {es b : Nat} {i : Bool} {ox oy : Opd} : N P n (.o (⟨none, d, .appE es b i ox oy, x, lt, []⟩ :: l) :: ks) Q (some st) = nS P n (.o l :: ks) Q x (appE1 d es b i st (st.ev ox) (st.ev oy)) := by rw [N_op, ← nS_eq]; rfl
theorem T_appE {es b : Nat} {i : Bool} {ox oy : Opd} : NT P n (.op ⟨none, d, .appE es b i ox oy, x, lt, []⟩ pt) ks Q (some st) = tS P n pt ks Q x (appE1 d es b i st (st.ev ox) (st.ev oy)) := by rw [T_op, ← tS_eq]; rfl
theorem N_store {m : Nat} {ox oy : Opd} : N P n (.o (⟨none, d, .store m ox oy, x, lt, []⟩ :: l) :: ks) Q (some st) = nS P n (.o l :: ks) Q x (store1 m st (st.ev ox) (st.ev oy)) := by rw [N_op, ← nS_eq]; rfl
theorem T_store {m : Nat} {ox oy : Opd} : NT P n (.op ⟨none, d, .store m ox oy, x, lt, []⟩ pt) ks Q (some st) = tS P n pt ks Q x (store1 m st (st.ev ox) (st.ev oy)) := by rw [T_op, ← tS_eq]; rfl
theorem N_box {s : Nat} : N P n (.o (⟨none, d, .box s, x, lt, []⟩ :: l) :: ks) Q (some st) = nS P n (.o l :: ks) Q x (box1 d s st (st.sl.get s)) := by rw [N_op, ← nS_eq]; rfl
theorem T_box {s : Nat} : NT P n (.op ⟨none, d, .box s, x, lt, []⟩ pt) ks Q (some st) = tS P n pt ks Q x (box1 d s st (st.sl.get s)) := by rw [T_op, ← tS_eq]; rfl
theorem N_alloc {v : Value} : N P n (.o (⟨none, d, .alloc v, x, lt, []⟩ :: l) :: ks) Q (some st) = N P n (.o l :: ks) Q (some (dropX x ((st.new (1000 + d) (zeroAV v)).set d (.ref ⟨1000 + d, [], 0⟩)))) := by rw [N_op]; rfl
theorem N_copy {oa ob : Opd} : N P n (.o (⟨none, d, .copy oa ob, x, lt, []⟩ :: l) :: ks) Q (some st) = nS P n (.o l :: ks) Q x (copy1 d st (st.ev oa) (st.ev ob)) := by rw [N_op, ← nS_eq]; rfl
theorem T_copy {oa ob : Opd} : NT P n (.op ⟨none, d, .copy oa ob, x, lt, []⟩ pt) ks Q (some st) = tS P n pt ks Q x (copy1 d st (st.ev oa) (st.ev ob)) := by rw [T_op, ← tS_eq]; rfl
theorem N_allocF {v : Value} {t : TypeId} : N P n (.o (⟨none, d, .allocF v t, x, lt, []⟩ :: l) :: ks) Q (some st) = N P n (.o l :: ks) Q (some (dropX x (addRf [(1000 + d, 1, .sa ⟨1000 + d, [], 0⟩ 0 t 2)] ((st.new (1000 + d) (zeroAV v)).set d (.ref ⟨1000 + d, [], 0⟩))))) := by rw [N_op]; rfl
theorem T_allocF {v : Value} {t : TypeId} : NT P n (.op ⟨none, d, .allocF v t, x, lt, []⟩ pt) ks Q (some st) = NT P n pt ks Q (some (dropX x (addRf [(1000 + d, 1, .sa ⟨1000 + d, [], 0⟩ 0 t 2)] ((st.new (1000 + d) (zeroAV v)).set d (.ref ⟨1000 + d, [], 0⟩))))) := by rw [T_op]; rfl
theorem T_alloc {v : Value} : NT P n (.op ⟨none, d, .alloc v, x, lt, []⟩ pt) ks Q (some st) = NT P n pt ks Q (some (dropX x ((st.new (1000 + d) (zeroAV v)).set d (.ref ⟨1000 + d, [], 0⟩)))) := by rw [T_op]; rfl
theorem N_call {f : FuncId} {args : List Opd} : N P n (.o (⟨none, d, .call f args, x, lt, z⟩ :: l) :: ks) Q (some st) = callS P f (some d) lt (fzS z st) (fun st' => N P n (.o l :: ks) Q (some (dropX x st'))) (evs (fzS z st) args) := by rw [N_op]; rfl
theorem T_call {f : FuncId} {args : List Opd} : NT P n (.op ⟨none, d, .call f args, x, lt, z⟩ pt) ks Q (some st) = callS P f (some d) lt (fzS z st) (fun st' => NT P n pt ks Q (some (dropX x st'))) (evs (fzS z st) args) := by rw [T_op]; rfl
theorem N_callP {f : FuncId} {args : List Opd} : N P n (.o (⟨none, d, .callP f args, x, lt, z⟩ :: l) :: ks) Q (some st) = callS P f (some d) none (fzS z st) (fun st' => N P n (.o l :: ks) Q (some (dropX x st'))) (evs (fzS z st) args) := by rw [N_op]; rfl
theorem T_callP {f : FuncId} {args : List Opd} : NT P n (.op ⟨none, d, .callP f args, x, lt, z⟩ pt) ks Q (some st) = callS P f (some d) none (fzS z st) (fun st' => NT P n pt ks Q (some (dropX x st'))) (evs (fzS z st) args) := by rw [T_op]; rfl
theorem N_callC {g : Opd} {args : List Opd} : N P n (.o (⟨none, d, .callC g args, x, lt, z⟩ :: l) :: ks) Q (some st) = callCS P (some d) (fzS z st) (fun st' => N P n (.o l :: ks) Q (some (dropX x st'))) ((fzS z st).ev g) (evs (fzS z st) args) := by rw [N_op]; rfl
theorem T_callC {g : Opd} {args : List Opd} : NT P n (.op ⟨none, d, .callC g args, x, lt, z⟩ pt) ks Q (some st) = callCS P (some d) (fzS z st) (fun st' => NT P n pt ks Q (some (dropX x st'))) ((fzS z st).ev g) (evs (fzS z st) args) := by rw [T_op]; rfl
theorem N_mkMap : N P n (.o (⟨none, d, .mkMap, x, lt, z⟩ :: l) :: ks) Q (some st) = ∀ b, N P n (.o l :: ks) Q (some (dropX x (mpNew d b (fzS z st)))) := by rw [N_op]; rfl
theorem T_mkMap : NT P n (.op ⟨none, d, .mkMap, x, lt, z⟩ pt) ks Q (some st) = ∀ b, NT P n pt ks Q (some (dropX x (mpNew d b (fzS z st)))) := by rw [T_op]; rfl
theorem N_guard {g : Nat} {want : Bool} {k : CK} : N P n (.o (⟨some (g, want), d, k, x, lt, z⟩ :: l) :: ks) Q (some st) = guardM P n want ⟨none, d, k, x, lt, z⟩ l ks Q st (st.sl.get g) := by
  rw [N.eq_def]
  simp only
  generalize st.sl.get g = y
  unfold guardM
  simp only [N_op]
  split <;> first | rfl | simp_all
def guardT (P : Program) (n : Nat) (want : Bool) (o : CO) (pt : PT) (ks : List Kn) (Q : Exit → Post) (st : St) : Option AV → Prop
  | some (.v (.bool true)) => if want = true then NT P n (.op o pt) ks Q (some st) else NT P n pt ks Q (some (skipO o st))
  | some (.v (.bool false)) => if want = false then NT P n (.op o pt) ks Q (some st) else NT P n pt ks Q (some (skipO o st))
  | some (.tup []) => NT P n pt ks Q (some (skipO o st))
  | _ => False
theorem T_guard {g : Nat} {want : Bool} {k : CK} : NT P n (.op ⟨some (g, want), d, k, x, lt, z⟩ pt) ks Q (some st) = guardT P n want ⟨none, d, k, x, lt, z⟩ pt ks Q st (st.sl.get g) := by
  simp only [NT]
  generalize st.sl.get g = y
  unfold guardT
  simp only [T_op]
  split <;> first | rfl | simp_all
theorem guardT_b {want b : Bool} {o : CO} : guardT P n want o pt ks Q st (some (.v (.bool b))) = if b = want then NT P n (.op o pt) ks Q (some st) else NT P n pt ks Q (some (skipO o st)) := by
  cases b <;> cases want <;> simp [guardT]
theorem guardT_t {want : Bool} {o : CO} : guardT P n want o pt ks Q st (some (.tup [])) = NT P n pt ks Q (some (skipO o st)) := rfl
theorem guardM_t {want : Bool} {o : CO} : guardM P n want o l ks Q st (some (.tup [])) = N P n (.o l :: ks) Q (some (skipO o st)) := rfl
theorem guardM_b {want b : Bool} {o : CO} : guardM P n want o l ks Q st (some (.v (.bool b))) = if b = want then N P n (.o (o :: l) :: ks) Q (some st) else N P n (.o l :: ks) Q (some (skipO o st)) := by
  cases b <;> cases want <;> simp [guardM]
end
theorem N_skip : N P n (.c .skip :: ks) Q (some st) = N P n ks Q (some st) := by rw [N.eq_def]
theorem N_exit {id : Nat} : N P n (.c (.exit id) :: ks) Q (some st) = exitM P n id Q st (exitTo id ks) := by
  rw [N.eq_def]
  simp only
  split <;> (rename_i h; rw [h]; rfl)
theorem N_ret : N P n (.c .ret :: ks) Q (some st) = Q .ret st := by rw [N.eq_def]
theorem N_seq {a b : CC} : N P n (.c (.seq a b) :: ks) Q (some st) = N P n (.c a :: .c b :: ks) Q (some st) := by rw [N.eq_def]
theorem N_block {id : Nat} {a : CC} : N P n (.c (.block id a) :: ks) Q (some st) = N P n (.c a :: .b id :: ks) Q (some st) := by rw [N.eq_def]
theorem N_region {l : List CO} : N P n (.c (.region l) :: ks) Q (some st) = N P n (.o l :: ks) Q (some st) := by rw [N.eq_def]
theorem N_loop {a : CC} : N P n (.c (.loop a) :: ks) Q (some st) = W P n (.c (.loop a) :: ks) Q st := by rw [N.eq_def]
theorem N_drawn {t : PT} : N P n (.c (.drawn t) :: ks) Q (some st) = W P n (.c (.drawn t) :: ks) Q st := by rw [N.eq_def]
theorem N_bad : N P n (.c .bad :: ks) Q (some st) = False := by rw [N.eq_def]
theorem N_badO {d : Nat} {b : Bool} {x z : List Nat} {lt : Option Nat} {l : List CO} : N P n (.o (⟨none, d, .bad b, x, lt, z⟩ :: l) :: ks) Q (some st) = False := by
  rw [N.eq_def]; simp [opN, stK, N_none]
theorem T_badO {d : Nat} {b : Bool} {x z : List Nat} {lt : Option Nat} {pt : PT} : NT P n (.op ⟨none, d, .bad b, x, lt, z⟩ pt) ks Q (some st) = False := by
  simp [NT, opN, stK, T_none]
theorem N_t {pt : PT} : N P n (.t pt :: ks) Q (some st) = W P n (.t pt :: ks) Q st := by rw [N.eq_def]
theorem N_cond {c : Opd} {a b : CC} : N P n (.c (.cond c a b) :: ks) Q (some st) = condM P n a b ks Q st (st.ev c) := by
  rw [N.eq_def]
  simp only
  generalize st.ev c = y
  unfold condM
  split <;> first | rfl | simp_all
theorem condM_b {a b : CC} {t : Bool} : condM P n a b ks Q st (some (.v (.bool t))) = if t = true then N P n (.c a :: ks) Q (some st) else N P n (.c b :: ks) Q (some st) := by cases t <;> simp [condM]
theorem exitM_some {id : Nat} {ks' : List Kn} : exitM P n id Q st (some ks') = N P n ks' Q (some st) := rfl
theorem exitM_none {id : Nat} : exitM P n id Q st none = Q (.exit id) st := rfl
theorem T_done : NT P n .done ks Q (some st) = W P n ks Q st := rfl
theorem T_alt {a b : PT} : NT P n (.alt a b) ks Q (some st) = (NT P n a ks Q (some st) ∧ NT P n b ks Q (some st)) := rfl
/-! Values. -/
theorem veval_ia {x i : Opd} {es : Nat} : veval (.ia x i es) st = (st.ev x).bind fun y => (st.int i).bind fun k => (rdS es st y).bind fun xs => if 0 ≤ k ∧ k < xs.length then elemP k.toNat y else none := by
  simp only [veval]
  cases st.ev x with
  | none => rfl
  | some y => cases st.int i with
    | none => rfl
    | some k => simp only [Option.bind_some]; cases rdS es st y <;> rfl
theorem veval_lnl {x : Opd} {es : Nat} : veval (.lnl x es) st = (st.ev x).bind fun y => (rdS es st y).map fun r => .v (.int .i64 r.length) := by
  simp only [veval]
  cases st.ev x <;> rfl
theorem veval_sl {x : Opd} {lo hi mx : Option Opd} {es : Nat} : veval (.sl x lo hi mx es) st = (st.ev x).bind fun y => (st.int? lo).bind fun l => (st.int? hi).bind fun h => (st.int? mx).bind fun m => (rdS es st y).bind fun xs => (okBounds xs.length l h m).map fun b => slOff b.1 (b.2.1 - b.1) y := by
  simp only [veval]
  cases st.ev x with
  | none => rfl
  | some y => cases st.int? lo with
    | none => rfl
    | some l => cases st.int? hi with
      | none => rfl
      | some h => cases st.int? mx with
        | none => rfl
        | some m => simp only [Option.bind_some]; cases rdS es st y <;> rfl
theorem veval_ss {x : Opd} {lo hi : Option Opd} : veval (.ss x lo hi) st = (st.str x).bind fun s => (st.int? lo).bind fun l => (st.int? hi).bind fun h => (okBounds s.size l h none).map fun b => .v (.string (s.extract b.1 b.2.1)) := by
  simp only [veval]
  cases st.str x with
  | none => rfl
  | some y => cases st.int? lo with
    | none => rfl
    | some l => cases st.int? hi <;> rfl
theorem veval_b2s {x : Opd} : veval (.b2s x) st = (st.ev x).bind fun y => (rdS 1 st y).bind fun xs => (xs.mapM byteV).map fun l => .v (.string ⟨l.toArray⟩) := by
  simp only [veval]
  cases st.ev x with
  | none => rfl
  | some y => simp only [Option.bind_some]; cases rdS 1 st y <;> rfl
theorem okBounds_map {α : Type} {k : Nat} {l h m : Option Int} {f : Nat × Nat × Nat → α} : (okBounds k l h m).map f = if 0 ≤ l.getD 0 ∧ l.getD 0 ≤ h.getD k ∧ h.getD k ≤ m.getD k ∧ m.getD k ≤ k then some (f ((l.getD 0).toNat, (h.getD k).toNat, (m.getD k).toNat)) else none := by
  simp only [okBounds]
  split <;> simp
theorem rdS_sl {es : Nat} {p : Pl} {es' off len : Nat} : rdS es st (.sl p es' off len) = if es' = es then (cellAt st.rt p.r p.path p.j).bind fun c => takeOwn es off len (some c) else none := by
  simp only [rdS]
  split
  · cases cellAt st.rt p.r p.path p.j <;> simp [takeOwn]
  · rfl
theorem takeOwn_own {es off len es' : Nat} {xs : List AV} : takeOwn es off len (some (.own es' xs)) = if es' = es ∧ off + len ≤ xs.length then some ((xs.drop off).take len) else none := rfl
theorem load_ref1 {p : Pl} : st.load none (.ref p) = (cellAt st.rt p.r p.path p.j).map (ld1 st.rf p) := rfl
theorem load_refN {p : Pl} {m : Nat} : st.load (some m) (.ref p) = (st.node p).bind fun z => if p.j + m ≤ z.cells.length then some (.agg (ldL st.rf p.r p.path p.j ((z.cells.drop p.j).take m))) else none := by
  simp only [St.load]
  cases st.node p <;> simp [ldN]
theorem load_fptr1 {y : AV} {j : Nat} : st.load none (.fptr y j) = y.cells[j]? := rfl
theorem load_fptrN {y : AV} {j m : Nat} : st.load (some m) (.fptr y j) = if j + m ≤ y.cells.length then some (.agg ((y.cells.drop j).take m)) else none := rfl
theorem rdS_v {es : Nat} {u : Value} : rdS es st (.v u) = if isNilSl u = true then some [] else none := rfl
theorem rdS_lst {es es' : Nat} {xs : List AV} : rdS es st (.lst es' xs) = if es' = es then some xs else none := rfl
theorem rdS_sa {es es' len cap : Nat} {p : Pl} : rdS es st (.sa p es' len cap) = if es' = 1 ∧ es = 1 then (st.node p).bind fun z => takeArr p.j len (some z) else none := by
  simp only [rdS]
  split
  · cases st.node p <;> rfl
  · rfl
theorem storeL_o {m : Nat} {p : Pl} {x y : AV} {o : Option AV} : storeL m st p y (some x) o = o.bind fun z =>
    if ntup y = true ∧ y.cells.length = m ∧ p.j + m ≤ z.cells.length ∧ 0 < m then
      if y.cells.all stor then if p.path = [] → p.r < VB then some (st.setC p.r p.path p.j (p.j + m) (x.setSub p.path (z.putCells p.j y.cells))) else none
      else if p.path = [] ∧ p.r < VB then
        some { st.setC p.r p.path p.j (p.j + m) (x.setSub p.path (z.putCells p.j (y.cells.map cellPut))) with rf := rfNew (surv1 p.r p.path.length p.j (p.j + m)) p.r p.j y.cells ++ (st.setC p.r p.path p.j (p.j + m) (x.setSub p.path (z.putCells p.j (y.cells.map cellPut)))).rf }
      else none
    else none := by cases o <;> rfl
theorem storeM2_o {st1 : St} {p : Pl} {es : Nat} {ys : List AV} {x : AV} {o : Option AV} : storeM2 st1 p es ys (some x) o = o.bind fun z => if p.j < z.cells.length ∧ (p.path = [] → p.r < VB) then some (st1.setC p.r p.path p.j (p.j + 1) (x.setSub p.path (z.setCell p.j (.own es ys)))) else none := by cases o <;> rfl
theorem storeM1_own {p q : Pl} {es off len es' : Nat} {xs : List AV} : storeM1 st p q es off len (some (.own es' xs)) = if es' = es ∧ off + len ≤ xs.length then storeM2 (takeL st q) p es ((xs.drop off).take len) ((takeL st q).rt.get p.r) ((takeL st q).node p) else none := rfl
theorem storeM1_bind {α : Type} {p q : Pl} {es off len : Nat} {o : Option α} {f : α → Option AV} : storeM1 st p q es off len (o.bind f) = o.bind fun c => storeM1 st p q es off len (f c) := by cases o <;> rfl
theorem baseOwn_own {es off len es' : Nat} {p : Pl} {xs : List AV} : baseOwn es st p off len (some (.own es' xs)) = if es' = es ∧ off + len = xs.length then some (xs.drop off, takeL st p) else none := rfl
theorem baseOwn_bind {α : Type} {es off len : Nat} {p : Pl} {o : Option α} {f : α → Option AV} : baseOwn es st p off len (o.bind f) = o.bind fun c => baseOwn es st p off len (f c) := by cases o <;> rfl
theorem appFin_eq {d es b : Nat} {o1 : Option (List AV × St)} {o2 : Option (List AV)} : appFin d es b o1 o2 = o1.bind fun r => o2.bind fun ys => if ys.all (storE es) = true ∧ (r.1.length + ys.length) * b ≤ 140737488355328 ∧ r.1.length + ys.length ≤ 9223372036854775807 then some ((r.2.new (2000 + d) (.own es (r.1 ++ ys))).set d (.sl ⟨2000 + d, [], 0⟩ es 0 (r.1 ++ ys).length)) else none := by
  cases o1 with
  | none => rfl
  | some r => cases o2 <;> rfl
theorem lendN_o {f : FuncId} {dst : Option Nat} {xs : List AV} {q : Pl} {K : Post} {x : AV} {o : Option AV} : lendN P f dst st xs q K (some x) o = ∃ z, o = some z ∧ (q.path = [] → q.r < VB) ∧ lendR P f dst st xs q K x (rfOf st q) (ACalls P f [(0, z)] (xs.map (lvA q.r st (isLN q.r q.path) lvN)) (callLQ dst xs 0 (fun t' => t'.cells.length == z.cells.length) (plugN st q.r x q.path z.cells.length) (mapN q.r q.path) (isLN q.r q.path) K)) := by
  cases o <;> simp [lendN]
theorem copy1_sa {d : Nat} {p : Pl} {es dl cap : Nat} {y : AV} : copy1 d st (some (.sa p es dl cap)) (some y) = if es = 1 then copyS d st p dl (rdS 1 st y) else none := rfl
theorem copyS_o {d : Nat} {p : Pl} {dl : Nat} {o : Option (List AV)} : copyS d st p dl o = o.bind fun ys => copyA d st p dl ys (st.rt.get p.r) (st.node p) := by cases o <;> rfl
theorem copyA_o {d : Nat} {p : Pl} {dl : Nat} {ys : List AV} {x : AV} {o : Option AV} : copyA d st p dl ys (some x) o = o.bind fun z => if ys.all (storE 1) = true ∧ p.j + dl ≤ z.cells.length ∧ (p.path = [] → p.r < VB) then some (copyPut d st p x z (flatC (ys.take dl))) else none := by cases o <;> rfl
theorem lendR_nil {f : FuncId} {dst : Option Nat} {xs : List AV} {q : Pl} {K : Post} {x : AV} {p : Prop} : lendR P f dst st xs q K x [] p = p := rfl
theorem lendR_cons {f : FuncId} {dst : Option Nat} {xs : List AV} {q : Pl} {K : Post} {x : AV} {e : Nat × Nat × AV} {rf : Rfs} {p : Prop} : lendR P f dst st xs q K x (e :: rf) p = ACallsR P f [(0, x)] (e :: rf) (xs.map (lvA q.r st (isLN q.r []) lvN)) (callRQ dst xs q.r x.cells.length (plugN st q.r x [] x.cells.length) (mapN q.r []) (isLN q.r []) K) := rfl
theorem lendS_own {f : FuncId} {dst : Option Nat} {xs : List AV} {q : Pl} {es es' : Nat} {K : Post} {x : AV} {ys : List AV} : lendS P f dst st xs q es K (some x) (some (.own es' ys)) = (es' = es ∧
    if VB ≤ q.r ∧ q.path = [] then q.j = 0 ∧ x.one = true ∧ ACalls P f [(9000, .own es ys)] (xs.map (lvA q.r st (isAt q.r [] 0) lvL)) (callLQ dst xs 9000 (okL es ys.length) (plugV st q.r) (mapL q.r [] 0) (isAt q.r [] 0) K)
    else ACalls P f [(9000, .own es ys)] (xs.map (lvA q.r st (isAt q.r q.path q.j) lvL)) (callLQ dst xs 9000 (okL es ys.length) (plugL st q.r x q.path q.j) (mapL q.r q.path q.j) (isAt q.r q.path q.j) K)) := rfl
theorem lendS_bind {α : Type} {f : FuncId} {dst : Option Nat} {xs : List AV} {q : Pl} {es : Nat} {K : Post} {x : AV} {o : Option α} {g : α → Option AV} : lendS P f dst st xs q es K (some x) (o.bind g) = ∃ y, o = some y ∧ lendS P f dst st xs q es K (some x) (g y) := by
  cases o <;> simp [lendS]
theorem elem_own {es i : Nat} {xs : List AV} : (AV.own es xs).elem i = xs[i]? := rfl
theorem elem_obj {i : Nat} {y : AV} : (AV.obj y).elem i = if i = 0 then some y else none := rfl
theorem sub_nil {x : AV} : x.sub [] = some x := rfl
/-- A node is put for another: within a list, without asking. -/
def setSubC (c : AV) (i : Nat) (p : List Hop) (y : AV) : AV :=
  match c with
  | .own es xs => .own es (xs.modify i fun z => z.setSub p y)
  | .obj z => if i = 0 then .obj (z.setSub p y) else .obj z
  | c => c
theorem setSub_cons {x : AV} {j i : Nat} {p : List Hop} {y c : AV} (hc : x.cells[j]? = some c) (h1 : c.one = true) : x.setSub ((j, i) :: p) y = x.setCell j (setSubC c i p y) := by
  have hself : x.setCell j c = x := by
    cases hx : x.one with
    | true =>
      rw [AV.cells_one hx] at hc
      cases j with
      | zero => simp only [List.getElem?_cons_zero, Option.some.injEq] at hc; subst hc; exact setCell_one hx _
      | succ j => simp at hc
    | false =>
      cases x <;> simp [AV.one] at hx <;> (simp only [AV.cells] at hc; simp only [AV.setCell]; congr 1; obtain ⟨h2, h3⟩ := List.getElem?_eq_some_iff.1 hc; rw [← h3]; exact List.set_getElem_self h2)
  simp only [AV.setSub, hc]
  cases c
  case own es xs =>
    simp only [elem_own, setSubC]
    cases hxs : xs[i]? with
    | none =>
      have : xs.modify i (fun z => z.setSub p y) = xs := by
        apply List.ext_getElem?
        intro k
        rw [List.getElem?_modify]
        split
        · rename_i e; subst e; simp [hxs]
        · simp
      simp only [this]; exact hself.symm
    | some z =>
      have : xs.modify i (fun z => z.setSub p y) = xs.set i (z.setSub p y) := by
        apply List.ext_getElem?
        intro k
        rw [List.getElem?_modify, List.getElem?_set]
        obtain ⟨hlt, hz⟩ := List.getElem?_eq_some_iff.1 hxs
        by_cases e : i = k
        · subst e; simp [hlt, hz]
        · simp [e]
      simp only [this]; rfl
  case obj z =>
    simp only [elem_obj, setSubC]
    by_cases hi : i = 0
    · subst hi; simp [AV.setElem]
    · simp only [hi, if_false]; exact hself.symm
  case agg cs => simp [AV.one] at h1
  case tup cs => simp [AV.one] at h1
  all_goals (simp only [AV.elem, setSubC]; exact hself.symm)
theorem modify_const {α : Type} {l : List α} {i : Nat} {y : α} : l.modify i (fun _ => y) = l.set i y := by
  apply List.ext_getElem?
  intro k
  rw [List.getElem?_modify, List.getElem?_set]
  by_cases e : i = k
  · subst e
    cases h : l[i]? with
    | none =>
      have := List.getElem?_eq_none_iff.1 h
      simp; omega
    | some x => have := (List.getElem?_eq_some_iff.1 h).1; simp [this]
  · simp [e]
theorem setSub_nil {x y : AV} : x.setSub [] y = y := rfl
/-! Cuts, by kinds. -/
theorem cutV_nv {r : Nat} {x : Value} : cutV (notR r) (.v x) = .v x := rfl
theorem cutV_nj {r : Nat} : cutV (notR r) .junk = .junk := rfl
theorem cutV_nl {r es : Nat} {xs : List AV} : cutV (notR r) (.lst es xs) = .lst es xs := rfl
theorem cutV_nf {r j : Nat} {x : AV} : cutV (notR r) (.fptr x j) = .fptr x j := rfl
theorem cutV_ne {r : Nat} {I : World → Fp → Value → Fp → Prop} : cutV (notR r) (.ext I) = .ext I := rfl
theorem cutV_nr {r : Nat} {p : Pl} : cutV (notR r) (.ref p) = if p.r = r then .junk else .ref p := by
  simp only [cutV, cut2, cut1, okF, notR]
  by_cases h : p.r = r <;> simp [h]
theorem cutV_ns {r es off len : Nat} {p : Pl} : cutV (notR r) (.sl p es off len) = if p.r = r then .junk else .sl p es off len := by
  simp only [cutV, cut2, cut1, okF, notR]
  by_cases h : p.r = r <;> simp [h]
theorem cutV_na {r es off len : Nat} {p : Pl} : cutV (notR r) (.sa p es off len) = if p.r = r then .junk else .sa p es off len := by
  simp only [cutV, cut2, cut1, okF, notR]
  by_cases h : p.r = r <;> simp [h]
theorem cutV_agg {ok : AV → Bool} {cs : List AV} : cutV ok (.agg cs) = .agg (cs.map (cut1 ok)) := rfl
theorem cutV_tup {ok : AV → Bool} {cs : List AV} : cutV ok (.tup cs) = .tup (cs.map (cut2 ok)) := rfl
theorem cutV_fn {ok : AV → Bool} {f : FuncId} {cs : List AV} : cutV ok (.fn f cs) = if cs.all ok = true then .fn f cs else .junk := rfl
theorem cut2_agg {ok : AV → Bool} {cs : List AV} : cut2 ok (.agg cs) = .agg (cs.map (cut1 ok)) := rfl
theorem cut1_nv {r : Nat} {x : Value} : cut1 (notR r) (.v x) = .v x := rfl
theorem cut1_sv {r d lo hi : Nat} {x : Value} : cut1 (surv1 r d lo hi) (.v x) = .v x := rfl
theorem cut1_sl {r d lo hi es : Nat} {xs : List AV} : cut1 (surv1 r d lo hi) (.lst es xs) = .lst es xs := rfl
theorem cut1_nl {r es : Nat} {xs : List AV} : cut1 (notR r) (.lst es xs) = .lst es xs := rfl
theorem cutV_sv {r d lo hi : Nat} {x : Value} : cutV (surv1 r d lo hi) (.v x) = .v x := rfl
theorem cutV_sj {r d lo hi : Nat} : cutV (surv1 r d lo hi) .junk = .junk := rfl
theorem cutV_sl {r d lo hi es : Nat} {xs : List AV} : cutV (surv1 r d lo hi) (.lst es xs) = .lst es xs := rfl
theorem cutV_sf {r d lo hi j : Nat} {x : AV} : cutV (surv1 r d lo hi) (.fptr x j) = .fptr x j := rfl
/-! Results. -/
def retP : Option (AV × St) → (AV → St → Prop) → Prop
  | some (r, M), p => p r M
  | none, _ => False
theorem retP_some {r : AV} {M : St} {p : AV → St → Prop} : retP (some (r, M)) p = p r M := rfl
theorem retP_ite {c : Prop} [Decidable c] {a b : Option (AV × St)} {p : AV → St → Prop} : retP (if c then a else b) p = if c then retP a p else retP b p := by split <;> rfl
theorem retP_none {p : AV → St → Prop} : retP none p = False := rfl
theorem retP_bind {α : Type} {o : Option α} {f : α → Option (AV × St)} {p : AV → St → Prop} : retP (o.bind f) p = ∃ y, o = some y ∧ retP (f y) p := by cases o <;> simp [retP_none]
theorem retP_map {α : Type} {o : Option α} {f : α → AV × St} {p : AV → St → Prop} : retP (o.map f) p = ∃ y, o = some y ∧ retP (some (f y)) p := by cases o <;> simp [retP_none]
theorem retP_eq {o : Option (AV × St)} {p : AV → St → Prop} : (∃ r s, o = some (r, s) ∧ p r s) = retP o p := by
  cases o with
  | none => simp [retP]
  | some q =>
    obtain ⟨r, s⟩ := q
    simp only [retP]
    apply propext
    constructor
    · rintro ⟨r', s', e, h⟩
      simp only [Option.some.injEq, Prod.mk.injEq] at e
      obtain ⟨rfl, rfl⟩ := e
      exact h
    · exact fun h => ⟨_, _, rfl, h⟩
theorem retQR_ret {I : World → Fp → Value → Fp → Prop} {ts : List RV} {Q : AV → Al → Rfs → Prop} : retQR I ts Q .ret st = retP (retSt ts (preFz ts st)) (fun r s => (pinned s.rt).get HID = some (.ext I) ∧ Q r ((pinned s.rt).del HID) (pinRf s.rf)) := retP_eq
theorem retQR_normal {I : World → Fp → Value → Fp → Prop} {ts : List RV} {Q : AV → Al → Rfs → Prop} : retQR I ts Q .normal st = retP (retSt ts (preFz ts st)) (fun r s => (pinned s.rt).get HID = some (.ext I) ∧ Q r ((pinned s.rt).del HID) (pinRf s.rf)) := retP_eq
theorem retQ_ret {I : World → Fp → Value → Fp → Prop} {ts : List RV} {Q : AV → Al → Prop} : retQ I ts Q .ret st = retP (retSt ts (preFz ts st)) (fun r s => (pinned s.rt).get HID = some (.ext I) ∧ Q r ((pinned s.rt).del HID)) := retP_eq
theorem retQ_normal {I : World → Fp → Value → Fp → Prop} {ts : List RV} {Q : AV → Al → Prop} : retQ I ts Q .normal st = retP (retSt ts (preFz ts st)) (fun r s => (pinned s.rt).get HID = some (.ext I) ∧ Q r ((pinned s.rt).del HID)) := retP_eq
theorem retCs_nil : retCs [] st = some ([], st) := rfl
theorem retCs_cons {t : RV} {ts : List RV} : retCs (t :: ts) st = (rvAV st t).bind fun x => (retC st x).bind fun r => if (owned r.1 || stay r.1) = true then (retCs ts r.2).map fun q => (r.1 :: q.1, q.2) else none := by
  simp only [retCs]
  cases rvAV st t with
  | none => rfl
  | some x =>
    simp only [Option.bind_some]
    cases retC st x with
    | none => rfl
    | some r =>
      obtain ⟨y, st1⟩ := r
      simp only [Option.bind_some]
      split
      · cases retCs ts st1 <;> rfl
      · rfl
theorem retSt_0 : retSt [] st = some (.tup [], st) := rfl
theorem retSt_1 {t : RV} : retSt [t] st = (rvAV st t).bind fun x => (retC st x).bind fun r => if (owned r.1 || stay r.1) = true then some (r.1, r.2) else none := by
  simp only [retSt, retCs]
  cases rvAV st t with
  | none => rfl
  | some x =>
    simp only [Option.bind_some]
    cases retC st x with
    | none => rfl
    | some r =>
      obtain ⟨y, st1⟩ := r
      simp only [Option.bind_some]
      by_cases h : (owned y || stay y) = true
      · simp only [if_pos h]
      · simp only [if_neg h]
theorem retSt_n {t t' : RV} {ts : List RV} : retSt (t :: t' :: ts) st = (retCs (t :: t' :: ts) st).map fun q => (.tup q.1, q.2) := by
  unfold retSt
  cases retCs (t :: t' :: ts) st with
  | none => rfl
  | some r => rfl
theorem retC_sl {q : Pl} {es off len : Nat} : retC st (.sl q es off len) = if pin q.r = true then some (.sl q es off len, st) else (cellAt st.rt q.r q.path q.j).bind fun c => (takeOwn es off len (some c)).map fun xs => (.own es xs, takeL st q) := by
  simp only [retC]
  split
  · rfl
  · cases h : cellAt st.rt q.r q.path q.j with
    | none => rfl
    | some c =>
      simp only [Option.bind_some]
      cases c <;> simp only [takeOwn] <;> try rfl
      split <;> rfl
theorem retC_ref {q : Pl} : retC st (.ref q) = if pin q.r = true then some (.ref q, st) else if q.path = [] ∧ q.j = 0 ∧ q.r < VB then (st.rt.get q.r).map fun x => (.obj x, st.drop q.r) else none := by
  simp only [retC]
  split
  · rfl
  · split
    · cases st.rt.get q.r <;> rfl
    · rfl
theorem retC_v {x : Value} : retC st (.v x) = some (.v x, st) := rfl
theorem retC_junk : retC st .junk = some (.junk, st) := rfl
theorem retC_agg {cs : List AV} : retC st (.agg cs) = some (.agg cs, st) := rfl
theorem retC_lst {es : Nat} {xs : List AV} : retC st (.lst es xs) = some (.lst es xs, st) := rfl
theorem retC_fptr {x : AV} {j : Nat} : retC st (.fptr x j) = some (.fptr x j, st) := rfl
theorem retC_fn {f : FuncId} {cs : List AV} : retC st (.fn f cs) = some (.fn f cs, st) := rfl
theorem retC_sa {q : Pl} {es off len : Nat} : retC st (.sa q es off len) = some (.sa q es off len, st) := rfl
theorem preFz1_t {k : Nat} : preFz1 (.t k) st = fzR st (st.sl.get k) := rfl
theorem preFz1_c {k : Nat} {ty : TypeId} {m : Option Nat} : preFz1 (.c k ty m) st = fzB st (st.sl.get k) := rfl
theorem rvAV_t {k : Nat} : rvAV st (.t k) = st.sl.get k := rfl
theorem rvAV_c {k : Nat} {ty : TypeId} {m : Option Nat} : rvAV st (.c k ty m) = (st.sl.get k).bind (st.load m) := rfl
def landP (o : Option St) (K : Post) : Prop := match o with
  | some st => K st
  | none => False
theorem landP_some {K : Post} : landP (some st) K = K st := rfl
theorem landP_none {K : Post} : landP none K = False := rfl
theorem landP_ite {c : Prop} [Decidable c] {a b : Option St} {K : Post} : landP (if c then a else b) K = if c then landP a K else landP b K := by split <;> rfl
theorem landP_eq {o : Option St} {K : Post} : (∃ st', o = some st' ∧ K st') = landP o K := by cases o <;> simp [landP]
theorem callQ_eq {dst : Option Nat} {xs : List AV} {K : Post} {r : AV} {M' : Al} : callQ dst st xs K r M' = (callOk xs r = true ∧ (parts r).all (fun y => owned y || noR y) = true ∧ landP (land dst r st) K) := by
  simp only [callQ, landP_eq]
theorem callRQ_eq {dst : Option Nat} {xs : List AV} {g len : Nat} {plug : AV → St} {m : Pl → Option Pl} {isL : AV → Bool} {K : Post} {r : AV} {M' : Al} {rf' : Rfs} :
    callRQ dst xs g len plug m isL K r M' rf' = ∃ t', M'.get 0 = some t' ∧ (t'.cells.length == len) = true ∧ ((xs.all fun x => noR x || isL x) || ((parts r).all plainT && plainT t')) = true ∧ landP (land dst (trR m r) (addRf (rfMove 0 g rf') (plug t'))) K := by
  simp only [callRQ, landP_eq]
theorem callLQ_eq {dst : Option Nat} {xs : List AV} {r0 : Nat} {okT : AV → Bool} {plug : AV → St} {m : Pl → Option Pl} {isL : AV → Bool} {K : Post} {r : AV} {M' : Al} :
    callLQ dst xs r0 okT plug m isL K r M' = ∃ t', M'.get r0 = some t' ∧ okT t' = true ∧ ((xs.all fun x => noR x || isL x) || ((parts r).all plainT && plainT t')) = true ∧ landP (land dst (trR m r) (plug t')) K := by
  simp only [callLQ, landP_eq]
/-! What is asked for. -/
theorem all_tt {α : Type} {l : List α} : (l.all fun _ => true) = true := by simp
theorem cast0 : ((0 : Nat) : Int) = 0 := rfl
end
end Go.Proofs.YthlehngbadianaaDoor.Ow
set_option linter.defProp false
set_option maxRecDepth 10000
namespace Go.Proofs.YthlehngbadianaaDoor.Ow
open Go Go.RowKit
def OI0 :=
  And.intro @enterSl.eq_1 <|
  And.intro @enterSl.eq_2 <|
  And.intro @lentTo.eq_1 <|
  And.intro @HID.eq_1 <|
  And.intro @N_none <|
  And.intro @N_bad <|
  And.intro @N_badO <|
  And.intro @T_badO <|
  And.intro @N_nil <|
  And.intro @N_i <|
  And.intro @N_b <|
  And.intro @N_o <|
  And.intro @N_val <|
  And.intro @N_mk <|
  And.intro @N_lit <|
  And.intro @N_litE <|
  And.intro @N_app <|
  And.intro @N_appE <|
  And.intro @N_store <|
  And.intro @N_box <|
  And.intro @N_alloc <|
  And.intro @N_allocF <|
  And.intro @N_copy <|
  And.intro @N_call <|
  And.intro @N_callP <|
  And.intro @N_callC <|
  And.intro @N_mkMap <|
  And.intro @N_guard <|
  And.intro @N_skip <|
  And.intro @N_exit <|
  And.intro @N_ret <|
  And.intro @N_seq <|
  And.intro @N_block <|
  And.intro @N_region <|
  And.intro @N_loop <|
  And.intro @N_drawn <|
  And.intro @N_t <|
  And.intro @N_cond <|
  And.intro @nV_some <|
  And.intro @nV_none <|
  And.intro @nV_ite <|
  And.intro @nV_bind <|
  And.intro @nV_map <|
  And.intro @nV_get <|
  And.intro @nS_some <|
  And.intro @nS_none <|
  And.intro @nS_ite <|
  And.intro @nS_bind <|
  And.intro @nS_map <|
  And.intro @tV_some <|
  And.intro @tV_none <|
  And.intro @tV_ite <|
  And.intro @tV_bind <|
  And.intro @tV_map <|
  And.intro @tV_get <|
  And.intro @tS_some <|
  And.intro @tS_none <|
  And.intro @tS_ite <|
  And.intro @tS_bind <|
  @tS_map
def OI1 :=
  And.intro @T_none <|
  And.intro @T_done <|
  And.intro @T_alt <|
  And.intro @T_val <|
  And.intro @T_mk <|
  And.intro @T_lit <|
  And.intro @T_litE <|
  And.intro @T_app <|
  And.intro @T_appE <|
  And.intro @T_store <|
  And.intro @T_box <|
  And.intro @T_alloc <|
  And.intro @T_allocF <|
  And.intro @T_copy <|
  And.intro @T_call <|
  And.intro @T_callP <|
  And.intro @T_callC <|
  And.intro @T_mkMap <|
  And.intro @T_guard <|
  And.intro @guardT_b <|
  And.intro @guardM_b <|
  And.intro @guardT_t <|
  And.intro @guardM_t <|
  And.intro @condM_b <|
  And.intro @exitM_some <|
  And.intro @exitM_none <|
  And.intro @exitTo.eq_1 <|
  And.intro @exitTo.eq_2 <|
  And.intro @exitTo.eq_3 <|
  And.intro @exitTo.eq_4 <|
  And.intro @exitTo.eq_5 <|
  And.intro @exitTo.eq_6 <|
  And.intro @ite_F <|
  And.intro @dropX.eq_1 <|
  And.intro @dropX.eq_2 <|
  And.intro @fzS.eq_1 <|
  And.intro @fzS.eq_2 <|
  And.intro @fzO.eq_1 <|
  And.intro @fzO.eq_2 <|
  And.intro @fzO.eq_3 <|
  And.intro @St.ev.eq_1 <|
  And.intro @St.ev.eq_2 <|
  And.intro @St.ev.eq_3 <|
  And.intro @St.int.eq_1 <|
  And.intro @St.int?.eq_1 <|
  And.intro @St.int?.eq_2 <|
  And.intro @St.str.eq_1 <|
  And.intro @St.set.eq_1 <|
  And.intro @St.del.eq_1 <|
  And.intro @St.unset.eq_1 <|
  And.intro @St.unset.eq_2 <|
  And.intro @skipO.eq_1 <|
  And.intro @CK.isStore.eq_1 <|
  And.intro @CK.isStore.eq_2 <|
  And.intro @CK.isStore.eq_3 <|
  And.intro @Al.get.eq_1 <|
  And.intro @Al.get.eq_2 <|
  And.intro @Al.set.eq_1 <|
  And.intro @Al.del.eq_1 <|
  @Al.del.eq_2
def OI2 :=
  And.intro @AV.cells.eq_1 <|
  And.intro @AV.cells.eq_2 <|
  And.intro @AV.cells.eq_3 <|
  And.intro @AV.one.eq_1 <|
  And.intro @AV.one.eq_2 <|
  And.intro @AV.one.eq_3 <|
  And.intro @Go.Value.oneCell'.eq_1 <|
  And.intro @Go.Value.oneCell'.eq_2 <|
  And.intro @Go.Value.oneCell'.eq_3 <|
  And.intro @veval.eq_1 <|
  And.intro @veval.eq_2 <|
  And.intro @veval.eq_3 <|
  And.intro @veval.eq_4 <|
  And.intro @veval.eq_5 <|
  And.intro @veval.eq_6 <|
  And.intro @veval.eq_8 <|
  And.intro @veval.eq_9 <|
  And.intro @veval.eq_10 <|
  And.intro @veval.eq_13 <|
  And.intro @veval.eq_14 <|
  And.intro @veval.eq_16 <|
  And.intro @veval.eq_17 <|
  And.intro @veval.eq_18 <|
  And.intro @veval.eq_19 <|
  And.intro @veval.eq_20 <|
  And.intro @veval.eq_21 <|
  And.intro @veval.eq_22 <|
  And.intro @veval.eq_23 <|
  And.intro @veval.eq_24 <|
  And.intro @veval.eq_25 <|
  And.intro @veval.eq_26 <|
  And.intro @veval.eq_27 <|
  And.intro @veval.eq_29 <|
  And.intro @veval_ia <|
  And.intro @veval_lnl <|
  And.intro @veval_sl <|
  And.intro @veval_ss <|
  And.intro @veval_b2s <|
  And.intro @load_ref1 <|
  And.intro @load_refN <|
  And.intro @load_fptr1 <|
  And.intro @load_fptrN <|
  And.intro @rdS_v <|
  And.intro @rdS_lst <|
  And.intro @rdS_sl <|
  And.intro @rdS_sa <|
  And.intro @takeOwn_own <|
  And.intro @takeArr.eq_1 <|
  And.intro @takeArr.eq_2 <|
  And.intro @ldL.eq_1 <|
  And.intro @ldL.eq_2 <|
  And.intro @ld1.eq_1 <|
  And.intro @ld1.eq_2 <|
  And.intro @ld1.eq_3 <|
  And.intro @ld1.eq_4 <|
  And.intro @ld1.eq_5 <|
  And.intro @rfGet.eq_1 <|
  And.intro @rfGet.eq_2 <|
  And.intro @elemP.eq_1 <|
  @elemP.eq_2
def OI3 :=
  And.intro @elemP.eq_3 <|
  And.intro @elemP.eq_4 <|
  And.intro @slOff.eq_1 <|
  And.intro @slOff.eq_2 <|
  And.intro @slOff.eq_3 <|
  And.intro @slOff.eq_4 <|
  And.intro @pOff.eq_1 <|
  And.intro @pOff.eq_2 <|
  And.intro @pOff.eq_3 <|
  And.intro @arrSl.eq_1 <|
  And.intro @arrSl.eq_2 <|
  And.intro @arrLen.eq_1 <|
  And.intro @arrLen.eq_2 <|
  And.intro @arrLen.eq_3 <|
  And.intro @sameRef.eq_1 <|
  And.intro @sameRef.eq_2 <|
  And.intro @ptrNil.eq_1 <|
  And.intro @ptrNil.eq_2 <|
  And.intro @ptrNil.eq_3 <|
  And.intro @ptrNil.eq_4 <|
  And.intro @slNil.eq_1 <|
  And.intro @slNil.eq_2 <|
  And.intro @slNil.eq_3 <|
  And.intro @slNil.eq_4 <|
  And.intro @slNil.eq_5 <|
  And.intro @eqNil.eq_1 <|
  And.intro @eqNil.eq_2 <|
  And.intro @eqNil.eq_3 <|
  And.intro @eq1.eq_1 <|
  And.intro @eq1.eq_2 <|
  And.intro @eq1.eq_3 <|
  And.intro @eq1.eq_4 <|
  And.intro @eqL.eq_1 <|
  And.intro @eqL.eq_2 <|
  And.intro @eqL.eq_3 <|
  And.intro @ntup.eq_1 <|
  And.intro @ntup.eq_2 <|
  And.intro @splice.eq_1 <|
  And.intro @fillA.eq_1 <|
  And.intro @fillA.eq_2 <|
  And.intro @byteV.eq_1 <|
  And.intro @byteV.eq_2 <|
  And.intro @partV.eq_1 <|
  And.intro @partV.eq_2 <|
  And.intro @okBounds_map <|
  And.intro @binV.eq_1 <|
  And.intro @binV.eq_2 <|
  And.intro @binV.eq_3 <|
  And.intro @binV.eq_4 <|
  And.intro @binV.eq_5 <|
  And.intro @unV.eq_1 <|
  And.intro @unV.eq_2 <|
  And.intro @unV.eq_3 <|
  And.intro @unV.eq_4 <|
  And.intro @unV.eq_5 <|
  And.intro @unV.eq_6 <|
  And.intro @intBin.eq_1 <|
  And.intro @intBin.eq_2 <|
  And.intro @intBin.eq_3 <|
  @intBin.eq_4
def OI4 :=
  And.intro @intBin.eq_5 <|
  And.intro @intBin.eq_6 <|
  And.intro @intBin.eq_7 <|
  And.intro @intBin.eq_8 <|
  And.intro @intBin.eq_9 <|
  And.intro @intBin.eq_10 <|
  And.intro @intBin.eq_11 <|
  And.intro @intBin.eq_12 <|
  And.intro @intBin.eq_13 <|
  And.intro @intBin.eq_14 <|
  And.intro @intBin.eq_15 <|
  And.intro @intBin.eq_16 <|
  And.intro @intBin.eq_17 <|
  And.intro @intShift.eq_1 <|
  And.intro @intShift.eq_2 <|
  And.intro @intShift.eq_3 <|
  And.intro @strBin.eq_1 <|
  And.intro @strBin.eq_2 <|
  And.intro @strBin.eq_3 <|
  And.intro @strBin.eq_4 <|
  And.intro @strBin.eq_5 <|
  And.intro @strBin.eq_6 <|
  And.intro @strBin.eq_7 <|
  And.intro @strBin.eq_8 <|
  And.intro @isNilSl.eq_1 <|
  And.intro @isNilSl.eq_2 <|
  And.intro @isNilP.eq_1 <|
  And.intro @isNilP.eq_2 <|
  And.intro @cellAt.eq_1 <|
  And.intro @AV.cellIn.eq_1 <|
  And.intro @St.node.eq_1 <|
  And.intro @sub_nil <|
  And.intro @AV.sub_cons <|
  And.intro @elem_own <|
  And.intro @elem_obj <|
  And.intro @setSub_cons <|
  And.intro @setSub_nil <|
  And.intro @setSubC.eq_1 <|
  And.intro @setSubC.eq_2 <|
  And.intro @setSubC.eq_3 <|
  And.intro @modify_const <|
  And.intro @AV.setCell.eq_1 <|
  And.intro @AV.setCell.eq_2 <|
  And.intro @AV.setCell.eq_3 <|
  And.intro @AV.setC.eq_1 <|
  And.intro @AV.putCells.eq_1 <|
  And.intro @AV.putCells.eq_2 <|
  And.intro @AV.putCells.eq_3 <|
  And.intro @AV.putCells.eq_4 <|
  And.intro @cellPut.eq_1 <|
  And.intro @stor.eq_1 <|
  And.intro @stor.eq_2 <|
  And.intro @stor1.eq_1 <|
  And.intro @stor1.eq_2 <|
  And.intro @stor1.eq_3 <|
  And.intro @stor1.eq_4 <|
  And.intro @stor1.eq_5 <|
  And.intro @storE.eq_1 <|
  And.intro @rfNew.eq_1 <|
  @rfNew.eq_2
def OI5 :=
  And.intro @storeL_o <|
  And.intro @storeM2_o <|
  And.intro @storeM1_own <|
  And.intro @storeM1_bind <|
  And.intro @storeP.eq_1 <|
  And.intro @storeP.eq_2 <|
  And.intro @store1.eq_1 <|
  And.intro @store1.eq_2 <|
  And.intro @St.new.eq_1 <|
  And.intro @St.drop.eq_1 <|
  And.intro @St.setC.eq_1 <|
  And.intro @St.takeC.eq_1 <|
  And.intro @takeL.eq_1 <|
  And.intro @baseOwn_own <|
  And.intro @baseOwn_bind <|
  And.intro @baseSt.eq_1 <|
  And.intro @baseSt.eq_2 <|
  And.intro @baseSt.eq_3 <|
  And.intro @srcOf.eq_1 <|
  And.intro @srcOf.eq_2 <|
  And.intro @appFin_eq <|
  And.intro @app1.eq_1 <|
  And.intro @app1.eq_2 <|
  And.intro @appE1.eq_1 <|
  And.intro @appE1.eq_2 <|
  And.intro @litFin.eq_1 <|
  And.intro @litFin.eq_2 <|
  And.intro @evL.eq_1 <|
  And.intro @evL.eq_2 <|
  And.intro @evs.eq_1 <|
  And.intro @evs.eq_2 <|
  And.intro @mkFin.eq_1 <|
  And.intro @mkFin.eq_2 <|
  And.intro @box1.eq_1 <|
  And.intro @box1.eq_2 <|
  And.intro @putAll.eq_1 <|
  And.intro @putAll.eq_2 <|
  And.intro @putAll.eq_3 <|
  And.intro @zeroAV.eq_1 <|
  And.intro @zeroAV.eq_2 <|
  And.intro @cutSl.eq_1 <|
  And.intro @cutRf.eq_1 <|
  And.intro @keepR.eq_1 <|
  And.intro @keepR.eq_2 <|
  And.intro @surv1.eq_1 <|
  And.intro @surv1.eq_2 <|
  And.intro @surv1.eq_3 <|
  And.intro @surv1.eq_4 <|
  And.intro @notR.eq_1 <|
  And.intro @notR.eq_2 <|
  And.intro @notR.eq_3 <|
  And.intro @notR.eq_4 <|
  And.intro @okF.eq_1 <|
  And.intro @okF.eq_2 <|
  And.intro @cutV_nv <|
  And.intro @cutV_nj <|
  And.intro @cutV_nl <|
  And.intro @cutV_nf <|
  And.intro @cutV_ne <|
  @cutV_nr
def OI6 :=
  And.intro @cutV_ns <|
  And.intro @cutV_na <|
  And.intro @cutV_agg <|
  And.intro @cutV_tup <|
  And.intro @cutV_fn <|
  And.intro @cut2_agg <|
  And.intro @cut1_nv <|
  And.intro @cut1_sv <|
  And.intro @cut1_sl <|
  And.intro @cut1_nl <|
  And.intro @cutV_sv <|
  And.intro @cutV_sj <|
  And.intro @cutV_sl <|
  And.intro @cutV_sf <|
  And.intro @cutV.eq_1 <|
  And.intro @cutV.eq_2 <|
  And.intro @cut2.eq_1 <|
  And.intro @cut2.eq_2 <|
  And.intro @cut1.eq_1 <|
  And.intro @callS.eq_1 <|
  And.intro @callS.eq_2 <|
  And.intro @callS.eq_3 <|
  And.intro @callCS.eq_1 <|
  And.intro @callCS.eq_2 <|
  And.intro @capOk.eq_1 <|
  And.intro @capOk.eq_2 <|
  And.intro @capOk.eq_3 <|
  And.intro @capOk.eq_4 <|
  And.intro @lendM.eq_1 <|
  And.intro @lendM.eq_2 <|
  And.intro @findExt.eq_1 <|
  And.intro @findExt.eq_2 <|
  And.intro @isExt.eq_1 <|
  And.intro @isExt.eq_2 <|
  And.intro @plugE.eq_1 <|
  And.intro @mpNew.eq_1 <|
  And.intro @id_eq.{1} <|
  And.intro @lendA.eq_1 <|
  And.intro @lendA.eq_2 <|
  And.intro @lendA.eq_3 <|
  And.intro @lendA.eq_4 <|
  And.intro @lendN_o <|
  And.intro @lendS_own <|
  And.intro @lendS_bind <|
  And.intro @copy1_sa <|
  And.intro @copyS_o <|
  And.intro @copyA_o <|
  And.intro @copyPut.eq_1 <|
  And.intro @copyPut.eq_2 <|
  And.intro @flatC.eq_1 <|
  And.intro @flatC.eq_2 <|
  And.intro @fitL.eq_1 <|
  And.intro @fitL.eq_2 <|
  And.intro @fitL.eq_3 <|
  And.intro @fit1.eq_1 <|
  And.intro @fit1.eq_2 <|
  And.intro @fit1.eq_3 <|
  And.intro @fit1.eq_4 <|
  And.intro @lendR_nil <|
  @lendR_cons
def OI7 :=
  And.intro @callRQ_eq <|
  And.intro @addRf.eq_1 <|
  And.intro @rfMove.eq_1 <|
  And.intro @rfMove.eq_2 <|
  And.intro @rfT.eq_1 <|
  And.intro @rfT.eq_2 <|
  And.intro @rfT.eq_3 <|
  And.intro @rfC.eq_1 <|
  And.intro @rfC.eq_2 <|
  And.intro @rfOf.eq_1 <|
  And.intro @callOk.eq_1 <|
  And.intro @vw.eq_1 <|
  And.intro @vw.eq_2 <|
  And.intro @vwc.eq_1 <|
  And.intro @vwc.eq_2 <|
  And.intro @vw1.eq_1 <|
  And.intro @vw1.eq_2 <|
  And.intro @vw1.eq_3 <|
  And.intro @vw1.eq_4 <|
  And.intro @vwSl.eq_1 <|
  And.intro @vwSl.eq_2 <|
  And.intro @vwRef.eq_1 <|
  And.intro @vwRef.eq_2 <|
  And.intro @frz.eq_1 <|
  And.intro @frz.eq_2 <|
  And.intro @frz.eq_3 <|
  And.intro @frz.eq_4 <|
  And.intro @frz.eq_5 <|
  And.intro @frz.eq_6 <|
  And.intro @frz.eq_7 <|
  And.intro @frz.eq_8 <|
  And.intro @frz.eq_9 <|
  And.intro @frz.eq_10 <|
  And.intro @frz.eq_11 <|
  And.intro @frz.eq_12 <|
  And.intro @frz.eq_13 <|
  And.intro @frzL_map <|
  And.intro @lvA.eq_1 <|
  And.intro @isLN.eq_1 <|
  And.intro @isLN.eq_2 <|
  And.intro @lvN.eq_1 <|
  And.intro @lvN.eq_2 <|
  And.intro @isAt.eq_1 <|
  And.intro @isAt.eq_2 <|
  And.intro @lvL.eq_1 <|
  And.intro @lvL.eq_2 <|
  And.intro @mapN.eq_1 <|
  And.intro @mapL.eq_1 <|
  And.intro @okL.eq_1 <|
  And.intro @okL.eq_2 <|
  And.intro @plugN.eq_1 <|
  And.intro @plugL.eq_1 <|
  And.intro @plugV.eq_1 <|
  And.intro @survB.eq_1 <|
  And.intro @survV.eq_1 <|
  And.intro @trR.eq_1 <|
  And.intro @trR.eq_2 <|
  And.intro @trP.eq_1 <|
  And.intro @trP.eq_2 <|
  @trc.eq_1
def OI8 :=
  And.intro @trc.eq_2 <|
  And.intro @trG.eq_1 <|
  And.intro @trG.eq_2 <|
  And.intro @trG.eq_3 <|
  And.intro @trG.eq_4 <|
  And.intro @land.eq_1 <|
  And.intro @land.eq_2 <|
  And.intro @landOk.eq_1 <|
  And.intro @landV.eq_1 <|
  And.intro @landV.eq_2 <|
  And.intro @parts.eq_1 <|
  And.intro @parts.eq_2 <|
  And.intro @adoptL.eq_1 <|
  And.intro @adoptL.eq_2 <|
  And.intro @adoptL.eq_3 <|
  And.intro @adoptL.eq_4 <|
  And.intro @adV.eq_1 <|
  And.intro @adV.eq_2 <|
  And.intro @adV.eq_3 <|
  And.intro @adV.eq_4 <|
  And.intro @adVs.eq_1 <|
  And.intro @adVs.eq_2 <|
  And.intro @objs.eq_1 <|
  And.intro @objs.eq_2 <|
  And.intro @objs.eq_3 <|
  And.intro @owned.eq_1 <|
  And.intro @owned.eq_2 <|
  And.intro @owned.eq_3 <|
  And.intro @owned.eq_4 <|
  And.intro @noR.eq_1 <|
  And.intro @noR.eq_2 <|
  And.intro @noR.eq_3 <|
  And.intro @noRc.eq_1 <|
  And.intro @noRc.eq_2 <|
  And.intro @noR1.eq_1 <|
  And.intro @noR1.eq_2 <|
  And.intro @noR1.eq_3 <|
  And.intro @noR1.eq_4 <|
  And.intro @plainT.eq_1 <|
  And.intro @plainT.eq_2 <|
  And.intro @plainT.eq_3 <|
  And.intro @plainT.eq_4 <|
  And.intro @plainT.eq_5 <|
  And.intro @plainT.eq_6 <|
  And.intro @plainT.eq_7 <|
  And.intro @plainT.eq_8 <|
  And.intro @plainT.eq_9 <|
  And.intro @plainT.eq_10 <|
  And.intro @plainT.eq_11 <|
  And.intro @plainT.eq_12 <|
  And.intro @plainT.eq_13 <|
  And.intro @plainT.eq_14 <|
  And.intro @plainL_all <|
  And.intro @retP_some <|
  And.intro @retP_ite <|
  And.intro @retP_none <|
  And.intro @retP_bind <|
  And.intro @retP_map <|
  And.intro @retQ_ret <|
  @retQ_normal
def OI9 :=
  And.intro @retQR_ret <|
  And.intro @retQR_normal <|
  And.intro @pinRf.eq_1 <|
  And.intro @retCs_nil <|
  And.intro @retCs_cons <|
  And.intro @retSt_0 <|
  And.intro @retSt_1 <|
  And.intro @retSt_n <|
  And.intro @retC_sl <|
  And.intro @retC_ref <|
  And.intro @retC_v <|
  And.intro @retC_junk <|
  And.intro @retC_agg <|
  And.intro @retC_lst <|
  And.intro @retC_fptr <|
  And.intro @retC_fn <|
  And.intro @retC_sa <|
  And.intro @stay.eq_1 <|
  And.intro @stay.eq_2 <|
  And.intro @stay.eq_3 <|
  And.intro @stayC.eq_1 <|
  And.intro @stayC.eq_2 <|
  And.intro @stay1.eq_1 <|
  And.intro @stay1.eq_2 <|
  And.intro @stay1.eq_3 <|
  And.intro @stay1.eq_4 <|
  And.intro @pinned.eq_1 <|
  And.intro @pin.eq_1 <|
  And.intro @preFz.eq_1 <|
  And.intro @preFz.eq_2 <|
  And.intro @preFz1_t <|
  And.intro @preFz1_c <|
  And.intro @rvAV_t <|
  And.intro @rvAV_c <|
  And.intro @fzR.eq_1 <|
  And.intro @fzR.eq_2 <|
  And.intro @fzB.eq_1 <|
  And.intro @fzB.eq_2 <|
  And.intro @fzB2.eq_1 <|
  And.intro @fzB2.eq_2 <|
  And.intro @ownJ.eq_1 <|
  And.intro @ownJ.eq_2 <|
  And.intro @ownJ.eq_3 <|
  And.intro @landP_some <|
  And.intro @landP_none <|
  And.intro @landP_ite <|
  And.intro @callQ_eq <|
  And.intro @callLQ_eq <|
  And.intro @ownPl.eq_1 <|
  And.intro @ownPl.eq_2 <|
  And.intro @ownPl.eq_3 <|
  And.intro @mapS.eq_1 <|
  And.intro @mapS.eq_2 <|
  And.intro @St.freeze.eq_1 <|
  And.intro @frzG.eq_1 <|
  And.intro @frzG.eq_2 <|
  And.intro @mapSl.eq_1 <|
  And.intro @mapRf.eq_1 <|
  And.intro @mapV.eq_1 <|
  @mapV.eq_2
def OI10 :=
  And.intro @mapC.eq_1 <|
  And.intro @mapC.eq_2 <|
  And.intro @VB.eq_1 <|
  And.intro @Keep.eq_1 <|
  And.intro @okRefs.eq_1 <|
  And.intro @hasRV.eq_1 <|
  And.intro @hasRV.eq_2 <|
  And.intro @hasR2.eq_1 <|
  And.intro @hasR2.eq_2 <|
  And.intro @hasRc.eq_1 <|
  And.intro @hasRc.eq_2 <|
  And.intro @hasR.eq_1 <|
  And.intro @hasR.eq_2 <|
  And.intro @hasR.eq_3 <|
  And.intro @hasR.eq_4 <|
  And.intro @all_tt <|
  And.intro @cast0 <|
  And.intro @plainZero.eq_1 <|
  And.intro @plainZero.eq_2 <|
  And.intro @Option.map_some.{0, 0} <|
  And.intro @Option.map_none.{0, 0} <|
  And.intro @Option.bind_some.{0, 0} <|
  And.intro @Option.bind_none.{0, 0} <|
  And.intro @Option.some.injEq.{0} <|
  And.intro @Option.isSome_some.{0} <|
  And.intro @Option.isSome_none.{0} <|
  And.intro @Option.bind_assoc.{0, 0, 0} <|
  And.intro @Option.bind_map.{0, 0, 0} <|
  And.intro @Option.map_bind.{0, 0, 0} <|
  And.intro @Option.map_map.{0, 0, 0} <|
  And.intro @Function.comp_def.{1, 1, 1} <|
  And.intro @List.map_cons.{0, 0} <|
  And.intro @List.map_nil.{0, 0} <|
  And.intro @List.map_map.{0, 0, 0} <|
  And.intro @List.all_map.{0, 0} <|
  And.intro @List.all_cons.{0} <|
  And.intro @List.all_nil.{0} <|
  And.intro @List.any_cons.{0} <|
  And.intro @List.any_nil.{0} <|
  And.intro @List.filter_cons.{0} <|
  And.intro @List.filter_nil.{0} <|
  And.intro @List.foldl_cons.{0, 0} <|
  And.intro @List.foldl_nil.{0, 0} <|
  And.intro @List.length_cons.{0} <|
  And.intro @List.length_nil.{0} <|
  And.intro @List.getElem?_cons_zero.{0} <|
  And.intro @List.getElem?_cons_succ.{0} <|
  And.intro @List.getElem?_nil.{0} <|
  And.intro @List.set_cons_zero.{0} <|
  And.intro @List.set_cons_succ.{0} <|
  And.intro @List.set_nil.{0} <|
  And.intro @List.drop_zero.{0} <|
  And.intro @List.drop_succ_cons.{0} <|
  And.intro @List.drop_nil.{0} <|
  And.intro @List.take_succ_cons.{0} <|
  And.intro @List.take_zero.{0} <|
  And.intro @List.take_nil.{0} <|
  And.intro @List.nil_append.{0} <|
  And.intro @List.cons_append.{0} <|
  @List.append_nil.{0}
def OI11 :=
  And.intro @List.append_assoc.{0} <|
  And.intro @List.isEmpty_nil.{0} <|
  And.intro @List.isEmpty_cons.{0} <|
  And.intro @List.contains_cons.{0} <|
  And.intro @List.contains_nil.{0} <|
  And.intro @List.mapM_cons.{0, 0, 0} <|
  And.intro @List.mapM_nil.{0, 0, 0} <|
  And.intro @Option.pure_def.{0} <|
  And.intro @Option.bind_eq_bind.{0} <|
  And.intro @LawfulMonad.bind_pure_comp.{0, 0} <|
  And.intro @Functor.map.eq_1.{0, 0} <|
  And.intro @Bool.and_true <|
  And.intro @Bool.true_and <|
  And.intro @Bool.and_false <|
  And.intro @Bool.false_and <|
  And.intro @Bool.or_false <|
  And.intro @Bool.false_or <|
  And.intro @Bool.or_true <|
  And.intro @Bool.true_or <|
  And.intro @Bool.not_true <|
  And.intro @Bool.not_false <|
  And.intro @Bool.false_eq_true <|
  And.intro @Bool.true_eq_false <|
  And.intro @bne_self_eq_false.{0} <|
  And.intro @beq_self_eq_true.{0} <|
  And.intro @if_true.{1} <|
  And.intro @if_false.{1} <|
  And.intro @ite_true.{1} <|
  And.intro @ite_false.{1} <|
  And.intro @decide_true <|
  And.intro @decide_false <|
  And.intro @decide_eq_true_eq <|
  And.intro @decide_eq_false_iff_not <|
  And.intro @and_true <|
  And.intro @true_and <|
  And.intro @and_self <|
  And.intro @and_false <|
  And.intro @false_and <|
  And.intro @or_false <|
  And.intro @false_or <|
  And.intro @or_true <|
  And.intro @true_or <|
  And.intro @not_true_eq_false <|
  And.intro @not_false_eq_true <|
  And.intro @eq_self.{1} <|
  And.intro @ne_eq.{1} <|
  And.intro @Nat.add_zero <|
  And.intro @ge_iff_le.{0} <|
  And.intro @gt_iff_lt.{0} <|
  And.intro @Nat.le_refl <|
  And.intro @Int.le_refl <|
  And.intro @List.take_length.{0} <|
  And.intro @List.length_map.{0, 0} <|
  And.intro @List.length_append.{0} <|
  And.intro @List.length_replicate.{0} <|
  And.intro @List.length_set.{0} <|
  And.intro @List.getElem?_map.{0, 0} <|
  And.intro @Nat.mul_one <|
  And.intro @Nat.zero_mul <|
  @Nat.add_one_ne_zero
def OI12 :=
  And.intro @Option.getD_some.{0} <|
  And.intro @Option.getD_none.{0} <|
  And.intro @Int.toNat_zero <|
  And.intro @Option.map_eq_map.{0} <|
  And.intro @Nat.zero_add <|
  And.intro @Int.cast_ofNat_Int <|
  And.intro @List.toList_toArray.{0} <|
  And.intro @Nat.lt_irrefl <|
  And.intro @Pl.mk.injEq <|
  And.intro @Nat.succ_ne_zero <|
  And.intro @Nat.sub_zero <|
  And.intro @exists_eq_left.{1} <|
  And.intro @exists_eq_left'.{1} <|
  And.intro @exists_eq_right.{1} <|
  And.intro @forall_const.{1} <|
  And.intro @forall_eq.{1} <|
  And.intro @Int.toNat_natCast <|
  And.intro @List.forall_mem_cons.{0} <|
  And.intro @List.not_mem_nil.{0} <|
  And.intro @false_implies <|
  And.intro @implies_true.{1} <|
  And.intro @true_implies <|
  And.intro @Prod.mk.injEq.{0, 0} <|
  And.intro @List.mem_cons.{0} <|
  And.intro @List.cons.injEq.{0} <|
  And.intro @AV.v.injEq <|
  And.intro @AV.own.injEq <|
  And.intro @AV.sl.injEq <|
  And.intro @AV.ref.injEq <|
  And.intro @AV.lst.injEq <|
  And.intro @AV.agg.injEq <|
  And.intro @AV.fptr.injEq <|
  And.intro @AV.obj.injEq <|
  And.intro @Go.Value.int.injEq <|
  And.intro @Go.Value.bool.injEq <|
  And.intro @Go.Value.string.injEq <|
  And.intro @List.map_append.{0, 0} <|
  And.intro @Nat.min_self <|
  @Option.isSome_map.{0, 0}
def OI := And.intro OI0 <| And.intro OI1 <| And.intro OI2 <| And.intro OI3 <| And.intro OI4 <| And.intro OI5 <| And.intro OI6 <| And.intro OI7 <| And.intro OI8 <| And.intro OI9 <| And.intro OI10 <| And.intro OI11 <| And.intro OI12 <| @forall_eq_or_imp.{1}
end Go.Proofs.YthlehngbadianaaDoor.Ow
