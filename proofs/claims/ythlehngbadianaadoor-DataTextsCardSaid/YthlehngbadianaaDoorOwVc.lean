/- What is to be shown of a compact code. -/
import Derived.Test.YthlehngbadianaaDoorOwDraw
set_option linter.unusedVariables false
set_option linter.unusedSimpArgs false
set_option linter.unnecessarySimpa false
namespace Go.Proofs.YthlehngbadianaaDoor.Ow
open Go Go.RowKit
/-- A region whose order is drawn: what may come next. -/
inductive PT where
  | done
  | op (o : CO) (t : PT)
  | alt (a b : PT)
inductive CC where
  | skip
  | exit (id : Nat)
  | ret
  | seq (a b : CC)
  | cond (c : Opd) (a b : CC)
  | block (id : Nat) (a : CC)
  | region (l : List CO)
  | loop (a : CC)
  | drawn (t : PT)
  | bad
def CO.strip (o : CO) : CO := ⟨o.g, o.d, o.k, [], none, []⟩
def PT.strip : PT → PT
  | .done => .done
  | .op o t => .op o.strip t.strip
  | .alt a b => .alt a.strip b.strip
def CC.strip : CC → CC
  | .seq a b => .seq a.strip b.strip
  | .cond c a b => .cond c a.strip b.strip
  | .block id a => .block id a.strip
  | .region l => .region (l.map CO.strip)
  | .loop a => .loop a.strip
  | .drawn t => .drawn t.strip
  | x => x
def dstO (n : Nat) (k : CK) (dst : Option Nat) : Option Nat :=
  if k.isStore then (if dst.isNone then some 0 else none) else match dst with
    | some d => if d < n then some d else none
    | none => none
def kOf (P : Program) (o : Oper) : CK :=
  match compK P o.op with
  | some k => k
  | none => .bad o.dst.isSome
def compG (n : Nat) (ops : Array Oper) (o : Oper) (k : CK) : Option CO :=
  match dstO n k o.dst with
  | none => none
  | some d => match o.guard with
    | none => some ⟨none, d, k, [], none, []⟩
    | some (j, want) => match (ops[j]?).bind (·.dst) with
      | some s => if s < n then some ⟨some (s, want), d, k, [], none, []⟩ else none
      | none => none
/-- Is slot q an empty literal? Is slot d appended to? Are there many that grow? -/
def emptyAt (P : Program) (ops : Array Oper) (q : Nat) : Bool := ops.toList.any fun o => o.dst == some q && match kOf P o with
  | .lit _ [] => true
  | _ => false
def grownAt (P : Program) (ops : Array Oper) (d : Option Nat) : Bool := ops.toList.any fun o => match kOf P o with
  | .app _ _ _ (.s q) _ => some q == d
  | _ => false
def manyApp (P : Program) (ops : Array Oper) : Bool := decide (2 ≤ (ops.toList.filter fun o => match kOf P o with
  | .app _ _ _ _ _ => true
  | _ => false).length)
def kOfE (P : Program) (ops : Array Oper) (o : Oper) : CK :=
  match kOf P o with
  | .lit es [] => if manyApp P ops && grownAt P ops o.dst then .litE es else .lit es []
  | .app es b s (.s q) y => if manyApp P ops && emptyAt P ops q then .appE es b s (.s q) y else .app es b s (.s q) y
  | k => k
theorem norm_kOfE (P : Program) (ops : Array Oper) (o : Oper) : (kOfE P ops o).norm = (kOf P o).norm := by
  unfold kOfE
  split
  · rename_i h; rw [h]; split <;> rfl
  · rename_i h; rw [h]; split <;> rfl
  · rfl
def compO (P : Program) (n : Nat) (ops : Array Oper) (o : Oper) : Option CO := compG n ops o (kOfE P ops o)
def compI (P : Program) (n : Nat) (ops : Array Oper) (i : Nat) : Option CO := (ops[i]?).bind (compO P n ops)
def calmI (P : Program) (n : Nat) (ops : Array Oper) (i : Nat) : Bool :=
  match compI P n ops i with
  | some co => co.k.calm
  | none => false
def CK.valLd : CK → Option Bool
  | .val e => some e.isLd
  | _ => none
/-- May it be taken first, as a value? -/
def takeI (P : Program) (n : Nat) (ops : Array Oper) (listed : Array Bool) (i : Nat) : Bool :=
  match compI P n ops i with
  | some co => match co.k.valLd with
    | some ld => takeOk ops (calmI P n ops) listed i ld
    | none => false
  | none => false
def consO (a : Option CO) (l : Option (List CO)) : Option (List CO) :=
  match a, l with
  | some a, some l => some (a :: l)
  | _, _ => none
def planD (P : Program) (n : Nat) (ops : Array Oper) : Nat → Array Bool → Option (List CO)
  | 0, listed => match Region.ready .any ops listed with
    | [] => some []
    | _ => none
  | fuel + 1, listed => match Region.ready .any ops listed with
    | [] => some []
    | rs => match rs.find? (takeI P n ops listed) with
      | some i => consO (compI P n ops i) (planD P n ops fuel (listed.setIfInBounds i true))
      | none => match rs with
        | [i] => consO (compI P n ops i) (planD P n ops fuel (listed.setIfInBounds i true))
        | _ => none
def consT (a : Option CO) (t : Option PT) : Option PT :=
  match a, t with
  | some a, some t => some (.op a t)
  | _, _ => none
def altsT : List (Option PT) → Option PT
  | [] => none
  | [x] => x
  | x :: y :: l => match x, altsT (y :: l) with
    | some a, some b => some (.alt a b)
    | _, _ => none
/-! The same with what is listed as a number's bits: the kernel counts with numbers. -/
def onM : List Edge → Nat
  | [] => 0
  | e :: l => if Region.binds .any e = true then 2 ^ e.on ||| onM l else onM l
def rdyM (ops : Array Oper) (m i : Nat) : Bool :=
  match ops[i]? with
  | some o => Nat.beq (onM o.after.toList ||| m) m
  | none => false
def readyM (ops : Array Oper) (m : Nat) : List Nat := (List.range ops.size).filter fun i => !m.testBit i && rdyM ops m i
/-- Number j does not keep number i from being taken first. -/
def freeJ (ops : Array Oper) (calm : Nat → Bool) (i : Nat) (oi : Oper) (ld : Bool) (j : Nat) : Bool :=
  j == i || match ops[j]? with
    | some oj => (depD ops i).testBit j || (oi.apart ops oj && (!ld || calm j))
    | none => true
def badL (ops : Array Oper) (calm : Nat → Bool) (i : Nat) (oi : Oper) (ld : Bool) : List Nat → Nat
  | [] => 0
  | j :: l => if freeJ ops calm i oi ld j = true then badL ops calm i oi ld l else 2 ^ j ||| badL ops calm i oi ld l
def badI (P : Program) (n : Nat) (ops : Array Oper) (i : Nat) : Option Nat :=
  match compI P n ops i with
  | some co => match co.k.valLd with
    | some ld => match ops[i]? with
      | some oi => some (badL ops (calmI P n ops) i oi ld (List.range ops.size))
      | none => none
    | none => none
  | none => none
def takeM (P : Program) (n : Nat) (ops : Array Oper) (m i : Nat) : Bool :=
  match badI P n ops i with
  | some b => Nat.beq (depD ops i &&& m) 0 && Nat.beq (b ||| m) m
  | none => false
def planDM (P : Program) (n : Nat) (ops : Array Oper) : Nat → Nat → Option (List CO)
  | 0, m => match readyM ops m with
    | [] => some []
    | _ => none
  | fuel + 1, m => match readyM ops m with
    | [] => some []
    | rs => match rs.find? (takeM P n ops m) with
      | some i => consO (compI P n ops i) (planDM P n ops fuel (m ||| 2 ^ i))
      | none => match rs with
        | [i] => consO (compI P n ops i) (planDM P n ops fuel (m ||| 2 ^ i))
        | _ => none
def planTM (P : Program) (n : Nat) (ops : Array Oper) : Nat → Nat → Option PT
  | 0, m => match readyM ops m with
    | [] => some .done
    | _ => none
  | fuel + 1, m => match readyM ops m with
    | [] => some .done
    | rs => match rs.find? (takeM P n ops m) with
      | some i => consT (compI P n ops i) (planTM P n ops fuel (m ||| 2 ^ i))
      | none => altsT (rs.map fun i => consT (compI P n ops i) (planTM P n ops fuel (m ||| 2 ^ i)))
def compC (P : Program) (n : Nat) : Code → Option CC
  | .skip => some .skip
  | .exit id => some (.exit id)
  | .ret => some .ret
  | .seq a b => match compC P n a, compC P n b with
    | some a', some b' => some (.seq a' b')
    | _, _ => none
  | .cond c a b => match opd c, compC P n a, compC P n b with
    | some c', some a', some b' => some (.cond c' a' b')
    | _, _, _ => none
  | .block id a => match compC P n a with
    | some a' => some (.block id a')
    | none => none
  | .loop a => match compC P n a with
    | some a' => some (.loop a')
    | none => none
  | .region _ ops false => match (List.range ops.size).mapM (compI P n ops) with
    | some l => some (.region l)
    | none => none
  | .region _ ops true => if Region.noSelect ops = true then match planDM P n ops ops.size 0 with
    | some l => some (.region l)
    | none => match planTM P n ops ops.size 0 with
      | some t => some (.drawn t)
      | none => some .bad
    else some .bad
  | _ => some .bad
/-! Around an operation. -/
def dropX : List Nat → St → St
  | [], st => st
  | d :: l, st => dropX l (st.del d)
theorem Ghost.dropX : ∀ (l : List Nat) (st : St), Ghost st (dropX l st)
  | [], st => Ghost.refl _
  | d :: l, st => (Ghost.del d).trans (Ghost.dropX l _)
def fzO (st : St) : Option AV → St
  | some (.sl p _ _ _) => st.freeze p
  | some (.agg cs) => (ownPl cs).foldl St.freeze st
  | _ => st
def fzS : List Nat → St → St
  | [], st => st
  | t :: l, st => fzS l (fzO st (st.sl.get t))
theorem Ghost.fzS : ∀ (l : List Nat) (st : St), Ghost st (fzS l st)
  | [], st => Ghost.refl _
  | t :: l, st => by
    refine Ghost.trans ?_ (Ghost.fzS l _)
    unfold fzO
    split
    · exact Ghost.freeze _
    · exact Ghost.freezes _ _
    · exact Ghost.refl _
def aft (o : CO) (K : Post) : Post := fun st => K (dropX o.x st)
theorem Good.aft {n : Nat} {w : World} {F : Fp} {env : Nat → RLoc} {o : CO} {K : Post} {a' : Act} {w' : World} (h : Good n w F env (Ow.aft o K) a' w') : Good n w F env K a' w' := by
  obtain ⟨F', env', st', h1, hrel, htr⟩ := h
  obtain ⟨F2, e2, k1, k2⟩ := Ghost.dropX o.x st' w' F' env' n a' hrel
  exact ⟨F2, e2, _, h1, k1, htr.trans k2⟩
def SO1 (P : Program) (o : CO) (st : St) (K : Post) : Prop :=
  match o.k with
  | .call f args => callS P f (some o.d) o.l (fzS o.z st) (aft o K) (evs (fzS o.z st) args)
  | .callP f args => callS P f (some o.d) none (fzS o.z st) (aft o K) (evs (fzS o.z st) args)
  | .callC g args => callCS P (some o.d) (fzS o.z st) (aft o K) ((fzS o.z st).ev g) (evs (fzS o.z st) args)
  | .mkMap => ∀ b, aft o K (mpNew o.d b (fzS o.z st))
  | k => ∃ st', stK o.d k (fzS o.z st) = some st' ∧ aft o K st'
def skipO (o : CO) (st : St) : St := if o.k.isStore then st else st.set o.d (.tup [])
def SO (P : Program) (o : CO) (st : St) (K : Post) : Prop :=
  match o.g with
  | none => SO1 P o st K
  | some (s, want) => ∃ b, gb want (st.sl.get s) = some b ∧ (b = want → SO1 P o st K) ∧ (b ≠ want → K (skipO o st))
def semL (P : Program) : List CO → St → Post → Prop
  | [], st, K => K st
  | o :: l, st, K => SO P o st (fun st' => semL P l st' K)
def semT (P : Program) : PT → St → Post → Prop
  | .done, st, K => K st
  | .op o t, st, K => SO P o st (fun st' => semT P t st' K)
  | .alt a b, st, K => semT P a st K ∧ semT P b st K
theorem callQ_mono {dst : Option Nat} {st : St} {xs : List AV} {K K' : Post} (hk : ∀ st, K st → K' st) {r : AV} {M' : Al} (h : callQ dst st xs K r M') : callQ dst st xs K' r M' := by
  obtain ⟨h1, h2, st', h3, h4⟩ := h
  exact ⟨h1, h2, st', h3, hk _ h4⟩
theorem callLQ_mono {dst : Option Nat} {xs : List AV} {r0 : Nat} {okT : AV → Bool} {plug : AV → St} {m : Pl → Option Pl} {isL : AV → Bool} {K K' : Post} (hk : ∀ st, K st → K' st) {r : AV} {M' : Al} (h : callLQ dst xs r0 okT plug m isL K r M') : callLQ dst xs r0 okT plug m isL K' r M' := by
  obtain ⟨t', h1, h2, h3, st', h4, h5⟩ := h
  exact ⟨t', h1, h2, h3, st', h4, hk _ h5⟩
theorem callRQ_mono {dst : Option Nat} {xs : List AV} {g len : Nat} {plug : AV → St} {m : Pl → Option Pl} {isL : AV → Bool} {K K' : Post} (hk : ∀ st, K st → K' st) {r : AV} {M' : Al} {rf' : Rfs} (h : callRQ dst xs g len plug m isL K r M' rf') : callRQ dst xs g len plug m isL K' r M' rf' := by
  obtain ⟨t', h1, h2, h3, st', h4, h5⟩ := h
  exact ⟨t', h1, h2, h3, st', h4, hk _ h5⟩
theorem callS_mono {P : Program} {f : FuncId} {dst l : Option Nat} {st : St} {K K' : Post} (hk : ∀ st, K st → K' st) {o : Option (List AV)} (h : callS P f dst l st K o) : callS P f dst l st K' o := by
  cases o with
  | none => exact h
  | some xs =>
    obtain ⟨h1, h2⟩ := h
    refine ⟨h1, ?_⟩
    cases l with
    | none => exact h2.mono fun _ _ => callQ_mono hk
    | some i =>
      simp only at h2 ⊢
      unfold lendA at h2 ⊢
      split at h2
      · unfold lendN at h2 ⊢
        split at h2
        · refine ⟨h2.1, ?_⟩
          have h3 := h2.2
          generalize rfOf _ _ = rf at h3
          cases rf with
          | nil => exact ACalls.mono h3 fun _ _ => callLQ_mono hk
          | cons e rf => exact ACallsR.mono h3 fun _ _ _ => callRQ_mono hk
        · exact h2
      · unfold lendS at h2 ⊢
        split at h2
        · obtain ⟨e, h2⟩ := h2
          refine ⟨e, ?_⟩
          split
          · rename_i hv
            rw [if_pos hv] at h2
            exact ⟨h2.1, h2.2.1, h2.2.2.mono fun _ _ => callLQ_mono hk⟩
          · rename_i hv
            rw [if_neg hv] at h2
            exact h2.mono fun _ _ => callLQ_mono hk
        · exact h2
      · unfold lendM at h2 ⊢
        split at h2
        · exact ⟨h2.1, h2.2.1, h2.2.2.mono fun _ _ => callLQ_mono hk⟩
        · exact h2
      · exact h2
theorem callCS_mono {P : Program} {dst : Option Nat} {st : St} {K K' : Post} (hk : ∀ st, K st → K' st) {g : Option AV} {o : Option (List AV)} (h : callCS P dst st K g o) : callCS P dst st K' g o := by
  unfold callCS at h ⊢
  split at h
  · exact ⟨h.1, h.2.1, h.2.2.1, h.2.2.2.mono fun _ _ => callQ_mono hk⟩
  · exact h
section
variable {P : Program} {n : Nat} {st : St} {K : Post} {ops : Array Oper}
structure CoOk (P : Program) (n : Nat) (ops : Array Oper) (o : Oper) (co : CO) : Prop where
  kk : (kOf P o).norm = co.k.norm
  d : co.k.isStore = true ∧ o.dst = none ∨ co.k.isStore = false ∧ o.dst = some co.d ∧ co.d < n
  g : (o.guard = none ∧ co.g = none) ∨ ∃ j want s oj, o.guard = some (j, want) ∧ ops[j]? = some oj ∧ oj.dst = some s ∧ s < n ∧ co.g = some (s, want)
theorem CoOk.k {o : Oper} {co : CO} (h : CoOk P n ops o co) (hb : ∀ b, co.k ≠ .bad b) : compK P o.op = some co.k.norm := by
  have h1 := h.kk
  unfold kOf at h1
  split at h1
  · rename_i k hk; rw [hk, ← h1, (compK_no hk).1]
  · refine absurd ?_ (hb o.dst.isSome)
    generalize co.k = k at h1
    cases k <;> simp [CK.norm] at h1 ⊢
    exact h1.symm
theorem compO_ok {o : Oper} {co : CO} (h : compO P n ops o = some co.strip) : CoOk P n ops o co := by
  unfold compO compG at h
  generalize hk : kOfE P ops o = k at h
  split at h
  · simp at h
  · rename_i d hd
    have hd' : k.isStore = true ∧ o.dst = none ∨ k.isStore = false ∧ o.dst = some d ∧ d < n := by
      unfold dstO at hd
      split at hd
      · rename_i hs
        left
        split at hd
        · rename_i h'; exact ⟨hs, by simpa using h'⟩
        · simp at hd
      · rename_i hs
        right
        split at hd
        · rename_i d' hd2
          split at hd
          · rename_i hlt
            simp only [Option.some.injEq] at hd
            subst hd
            exact ⟨by simpa using hs, hd2, hlt⟩
          · simp at hd
        · simp at hd
    split at h
    · rename_i hg
      simp only [Option.some.injEq, CO.strip, CO.mk.injEq, and_true] at h
      obtain ⟨h1, h2, h3⟩ := h
      exact ⟨by rw [← norm_kOfE P ops o, hk, h3], by rw [← h3, ← h2]; exact hd', Or.inl ⟨hg, h1.symm⟩⟩
    · rename_i j want hg
      split at h
      · rename_i s hs
        split at h
        · rename_i hlt
          simp only [Option.some.injEq, CO.strip, CO.mk.injEq, and_true] at h
          obtain ⟨h1, h2, h3⟩ := h
          rw [Option.bind_eq_some_iff] at hs
          obtain ⟨oj, hoj, hdj⟩ := hs
          exact ⟨by rw [← norm_kOfE P ops o, hk, h3], by rw [← h3, ← h2]; exact hd', Or.inr ⟨j, want, s, oj, hg, hoj, hdj, hlt, h1.symm⟩⟩
        · simp at h
      · simp at h
theorem SO1_op (hn : n ≤ 1000) {o : Oper} {co : CO} (hc : CoOk P n ops o co) (h : SO1 P co st K) : AOpC co.k.calm P n o st K := by
  suffices AOpC co.k.calm P n o st (aft co K) from fun w F env a hr => Oper.wp_mono' (fun a' w' hg => ⟨hg.1, hg.2.aft⟩) (this w F env a hr)
  refine AOpC.ghost (Ghost.fzS co.z st) ?_
  unfold SO1 at h
  split at h
  · rename_i f args hk
    have hk' := hc.k (by rw [hk]; simp)
    rw [hk] at hk'
    have hd := hc.d
    rw [hk] at hd ⊢
    simp only [CK.isStore, Bool.false_eq_true, false_and, true_and, false_or] at hd
    rw [← hd.1] at h
    exact (call_sound hn hk' (fun d e => by rw [hd.1] at e; cases e; exact hd.2) h).c
  · rename_i f args hk
    have hk' := hc.k (by rw [hk]; simp)
    rw [hk] at hk'
    have hd := hc.d
    rw [hk] at hd ⊢
    simp only [CK.isStore, Bool.false_eq_true, false_and, true_and, false_or] at hd
    rw [← hd.1] at h
    exact callP_sound hn hk' (fun d e => by rw [hd.1] at e; cases e; exact hd.2) h
  · rename_i g args hk
    have hk' := hc.k (by rw [hk]; simp)
    rw [hk] at hk'
    have hd := hc.d
    rw [hk] at hd ⊢
    simp only [CK.isStore, Bool.false_eq_true, false_and, true_and, false_or] at hd
    rw [← hd.1] at h
    exact callC_sound hn hk' (fun d e => by rw [hd.1] at e; cases e; exact hd.2) h
  · rename_i hk
    have hk' := hc.k (by rw [hk]; simp)
    rw [hk] at hk'
    have hd := hc.d
    rw [hk] at hd ⊢
    simp only [CK.isStore, Bool.false_eq_true, false_and, true_and, false_or] at hd
    obtain ⟨t, ht⟩ := mkMap_inv hk'
    exact (AOp_mkMap ht hd.1 hd.2 hn h).c
  · obtain ⟨st', h1, h2⟩ := h
    refine stK_soundE hn (hc.k ?_) hc.d h1 h2
    intro b hb
    rw [hb] at h1
    simp [stK] at h1
theorem unset_eq {o : Oper} {co : CO} (hc : CoOk P n ops o co) : skipO co st = st.unset o.dst := by
  unfold skipO
  rcases hc.d with ⟨h1, h2⟩ | ⟨h1, h2, _⟩
  · rw [h2, if_pos h1]; rfl
  · rw [h2, h1]; rfl
theorem dst_lt {o : Oper} {co : CO} (hc : CoOk P n ops o co) : ∀ d, o.dst = some d → d < n := by
  intro d hd
  rcases hc.d with ⟨h1, h2⟩ | ⟨h1, h2, h3⟩
  · rw [h2] at hd; simp at hd
  · rw [h2] at hd; cases hd; exact h3
theorem compI_ok {i : Nat} {co : CO} (h : compI P n ops i = some co.strip) : ∃ o, ops[i]? = some o ∧ CoOk P n ops o co := by
  unfold compI at h
  rw [Option.bind_eq_some_iff] at h
  obtain ⟨o, h1, h2⟩ := h
  exact ⟨o, h1, compO_ok h2⟩
theorem SO1.mono {co : CO} {K' : Post} (h : SO1 P co st K) (hk : ∀ st', K st' → K' st') : SO1 P co st K' := by
  unfold SO1 at h ⊢
  split at h
  · exact callS_mono (fun st' => hk _) h
  · exact callS_mono (fun st' => hk _) h
  · exact callCS_mono (fun st' => hk _) h
  · exact fun b => hk _ (h b)
  · obtain ⟨st', k1, k2⟩ := h
    exact ⟨st', k1, hk _ k2⟩
theorem AOps_of (hn : n ≤ 1000) : ∀ (is : List Nat) (cl : List CO) (st : St), is.mapM (compI P n ops) = some (cl.map CO.strip) → semL P cl st K → AOps P n ops is st K
  | [], cl, st, hm, h => by
    simp at hm
    cases cl with
    | nil => exact AOps_nil h
    | cons c cl => simp at hm
  | i :: is, cl, st, hm, h => by
    simp only [List.mapM_cons, Option.pure_def, Option.bind_eq_bind, Option.bind_eq_some_iff, Option.some.injEq] at hm
    obtain ⟨co', h1, cl', h2, h3⟩ := hm
    cases cl with
    | nil => simp at h3
    | cons co cl =>
    simp only [List.map_cons, List.cons.injEq] at h3
    obtain ⟨rfl, rfl⟩ := h3
    obtain ⟨o, ho, hc⟩ := compI_ok h1
    simp only [semL, SO] at h
    rcases hc.g with ⟨hg, hg'⟩ | ⟨j, want, s, oj, hg, hoj, hdj, hs, hg'⟩
    · rw [hg'] at h
      simp only at h
      exact AOps_cons ho hg (AOpC.op (SO1_op hn hc (h.mono fun st2 hq => AOps_of hn is cl st2 h2 hq)))
    · rw [hg'] at h
      simp only at h
      obtain ⟨b, hb, hyes, hno⟩ := h
      refine AOps_guard ho hg hoj hdj hs hb (dst_lt hc) (fun e => AOpC.op (SO1_op hn hc ((hyes e).mono fun st2 hq => AOps_of hn is cl st2 h2 hq))) (fun e => ?_)
      have h := hno e
      rw [unset_eq hc] at h
      exact AOps_of hn is cl _ h2 h
end
end Go.Proofs.YthlehngbadianaaDoor.Ow
