/- Regions that draw their order, by a plan. -/
import Derived.Test.YthlehngbadianaaDoorOwVc
set_option linter.unusedVariables false
set_option linter.unusedSimpArgs false
set_option linter.unnecessarySimpa false
namespace Go.Proofs.YthlehngbadianaaDoor.Ow
open Go Go.RowKit
section
variable {P : Program} {n : Nat} {K : Post} {ops : Array Oper}
theorem consO_eq {a : Option CO} {l : Option (List CO)} {cl : List CO} (h : consO a l = some cl) : ∃ x r, a = some x ∧ l = some r ∧ cl = x :: r := by
  unfold consO at h
  split at h
  · simp only [Option.some.injEq] at h; exact ⟨_, _, rfl, rfl, h.symm⟩
  · simp at h
theorem wantedA_of {o : Oper} {st : St} {j s : Nat} {want b : Bool} {oj : Oper} (hg : o.guard = some (j, want)) (hoj : ops[j]? = some oj) (hdj : oj.dst = some s) (hs : s < n) (hb : gb want (st.sl.get s) = some b) : wantedA ops n st o = some (b == want) := by
  simp only [wantedA, hg, hoj, hdj, hs, if_true, Option.bind_some]
  unfold gb at hb
  split at hb
  · rename_i h1
    obtain rfl := Option.some.inj hb
    rw [h1]
  · rename_i h1
    obtain rfl := Option.some.inj hb
    rw [h1]; cases want <;> rfl
  · simp at hb
theorem takeOk_mono {calm : Nat → Bool} {listed : Array Bool} {i : Nat} {ld : Bool} (h : takeOk ops calm listed i ld = true) : takeOk ops calm listed i false = true := by
  unfold takeOk at h ⊢
  simp only [Bool.and_eq_true] at h ⊢
  refine ⟨h.1, ?_⟩
  have h2 := h.2
  split at h2
  · simp at h2
  · rename_i oi ho
    rw [List.all_eq_true] at h2 ⊢
    intro j hj
    have h3 := h2 j hj
    cases hoj : ops[j]? with
    | none => simp [hoj]
    | some oj =>
      simp only [hoj] at h3 ⊢
      cases ld <;> simp_all
      rcases h3 with h3 | h3 | h3
      · exact Or.inl h3
      · exact Or.inr (Or.inl h3)
      · exact Or.inr (Or.inr h3.1)
theorem compK_val {op : Op} {e : VE} (hh : compK P op = some (.val e)) : compV P op = some e := by
  unfold compK at hh
  split at hh
  · split at hh <;> simp at hh
  · unfold compLit at hh; split at hh
    · split at hh <;> simp at hh
    · simp at hh
  · unfold compApp at hh; split at hh
    · split at hh <;> simp at hh
    · simp at hh
  · unfold compCopy at hh; split at hh
    · split at hh
      · split at hh <;> simp at hh
      · simp at hh
    · simp at hh
  · unfold compCall at hh; split at hh
    · split at hh
      · simp only [Option.some.injEq] at hh
        split at hh <;> simp at hh
      · simp at hh
    · simp at hh
  · unfold compCallC at hh; split at hh <;> simp at hh
  · simp at hh
  · split at hh <;> simp at hh
  · simp at hh
  · split at hh
    · split at hh
      · unfold allocK at hh; split at hh <;> simp at hh
      · simp at hh
    · simp at hh
  · simpa using hh
theorem AAny_ghost {calm : Nat → Bool} {fuel : Nat} {listed : Array Bool} {st st' : St} (hg : Ghost st st') (h : AAny P n ops calm fuel listed st' K) : AAny P n ops calm fuel listed st K := by
  intro w F env a hr
  obtain ⟨F1, e1, h1, h2⟩ := hg w F env n a hr
  exact wpAnyC_mono (fun e a' w' he => ⟨he.1, Good.trans h2 he.2⟩) _ _ _ _ (h w F1 e1 a h1)
/-- One step of a drawn region: a value may be taken first. -/
theorem step_take (hns : Region.noSelect ops = true) {fuel : Nat} {listed : Array Bool} {i : Nat} {o : Oper} {co : CO} {K' : Post} {st : St} (ho : ops[i]? = some o) (hc : CoOk P n ops o co) (h1 : ∃ co', compI P n ops i = some co' ∧ co'.k = co.k) (htk : takeI P n ops listed i = true)
    (hnext : ∀ st, K' st → AAny P n ops (calmI P n ops) fuel (listed.setIfInBounds i true) st K) (h : SO P co st K') : AAny P n ops (calmI P n ops) (fuel + 1) listed st K := by
  obtain ⟨co', h1, hkk⟩ := h1
  simp only [takeI, h1] at htk
  rw [hkk] at htk
  cases hk : co.k with
  | val e =>
    rw [hk] at htk
    simp only [CK.valLd] at htk
    have hcv : compV P o.op = some e := compK_val (by have h0 := hc.k (by rw [hk]; simp); rw [hk] at h0; exact h0)
    have hd := hc.d
    rw [hk] at hd
    simp only [CK.isStore, Bool.false_eq_true, false_and, true_and, false_or] at hd
    have step : ∀ (hh : SO1 P co st K'), ∃ z, veval e (fzS co.z st) = some z ∧ AAny P n ops (calmI P n ops) fuel (listed.setIfInBounds i true) ((fzS co.z st).set co.d z) K := by
      intro hh
      unfold SO1 at hh
      rw [hk] at hh
      simp only [stK] at hh
      obtain ⟨st', h5, h7⟩ := hh
      cases hv : veval e (fzS co.z st) with
      | none => rw [hv] at h5; simp [stV] at h5
      | some z =>
        rw [hv] at h5
        simp only [stV, Option.some.injEq] at h5
        subst h5
        exact ⟨z, rfl, AAny_ghost (Ghost.dropX _ _) (hnext _ h7)⟩
    simp only [SO] at h
    rcases hc.g with ⟨hg, hg'⟩ | ⟨j, want, s, oj, hg, hoj, hdj, hs, hg'⟩
    · rw [hg'] at h
      obtain ⟨z, hz, hn⟩ := step h
      exact AAny_takeZ (Ghost.fzS co.z st) ho (by simp [wantedA, hg]) hcv hd.1 hd.2 hns htk hz hn
    · rw [hg'] at h
      obtain ⟨b, hb, hyes, hno⟩ := h
      by_cases hbw : b = want
      · obtain ⟨z, hz, hn⟩ := step (hyes hbw)
        exact AAny_takeZ (Ghost.fzS co.z st) ho (by rw [wantedA_of hg hoj hdj hs hb]; simp [hbw]) hcv hd.1 hd.2 hns htk hz hn
      · have hn := hno hbw
        rw [unset_eq hc] at hn
        exact AAny_drop (calm := calmI P n ops) ho (by rw [wantedA_of hg hoj hdj hs hb]; simp [hbw]) (dst_lt hc) hns (takeOk_mono htk) (hnext _ hn)
  | _ => rw [hk] at htk; simp [CK.valLd] at htk
/-- One operation that may come up. -/
theorem step_any (hn : n ≤ 1000) {i : Nat} {o : Oper} {co : CO} {K' K2 : Post} {st : St} (ho : ops[i]? = some o) (hc : CoOk P n ops o co) (h1 : ∃ co', compI P n ops i = some co' ∧ co'.k = co.k) (hnext : ∀ st, K' st → K2 st) (h : SO P co st K') : AStep P n ops (calmI P n ops) st i K2 := by
  obtain ⟨co', h1, hkk⟩ := h1
  refine ⟨o, ho, ?_⟩
  have hcalm : calmI P n ops i = co.k.calm := by simp only [calmI, h1, hkk]
  simp only [SO] at h
  rcases hc.g with ⟨hg, hg'⟩ | ⟨j, want, s, oj, hg, hoj, hdj, hs, hg'⟩
  · rw [hg'] at h
    left
    refine ⟨by simp [wantedA, hg], ?_⟩
    rw [hcalm]
    exact SO1_op hn hc (h.mono hnext)
  · rw [hg'] at h
    obtain ⟨b, hb, hyes, hno⟩ := h
    by_cases hbw : b = want
    · left
      refine ⟨by rw [wantedA_of hg hoj hdj hs hb]; simp [hbw], ?_⟩
      rw [hcalm]
      exact SO1_op hn hc ((hyes hbw).mono hnext)
    · right
      refine ⟨by rw [wantedA_of hg hoj hdj hs hb]; simp [hbw], dst_lt hc, ?_⟩
      have hn' := hno hbw
      rw [unset_eq hc] at hn'
      exact hnext _ hn'
theorem AAny_of (hn1 : n ≤ 1000) (hns : Region.noSelect ops = true) : ∀ (fuel : Nat) (listed : Array Bool) (cl : List CO) (st : St), planD P n ops fuel listed = some (cl.map CO.strip) → semL P cl st K → AAny P n ops (calmI P n ops) fuel listed st K
  | 0, listed, cl, st, hp, h => by
    simp only [planD] at hp
    split at hp
    · rename_i hr
      simp only [Option.some.injEq] at hp
      cases cl with
      | nil => exact AAny_done hr h
      | cons c cl => simp at hp
    · simp at hp
  | fuel + 1, listed, cl, st, hp, h => by
    simp only [planD] at hp
    split at hp
    · rename_i hr
      simp only [Option.some.injEq] at hp
      cases cl with
      | nil => exact AAny_done hr h
      | cons c cl => simp at hp
    · rename_i hne
      split at hp
      · rename_i i hi
        obtain ⟨x, r, h1, h2, h3⟩ := consO_eq hp
        cases cl with
        | nil => simp at h3
        | cons co cl =>
        simp only [List.map_cons, List.cons.injEq] at h3
        obtain ⟨rfl, rfl⟩ := h3
        obtain ⟨o, ho, hc⟩ := compI_ok h1
        exact step_take hns ho hc ⟨_, h1, rfl⟩ (List.find?_some hi) (fun st2 hq => AAny_of hn1 hns fuel _ cl st2 h2 hq) h
      · split at hp
        · rename_i i hrs
          obtain ⟨x, r, h1, h2, h3⟩ := consO_eq hp
          cases cl with
          | nil => simp at h3
          | cons co cl =>
          simp only [List.map_cons, List.cons.injEq] at h3
          obtain ⟨rfl, rfl⟩ := h3
          obtain ⟨o, ho, hc⟩ := compI_ok h1
          refine AAny_all hrs (by simp) ?_
          intro i' hi'
          simp only [List.mem_singleton] at hi'
          subst hi'
          exact step_any hn1 ho hc ⟨_, h1, rfl⟩ (fun st2 hq => AAny_of hn1 hns fuel _ cl st2 h2 hq) h
        · simp at hp
/-! The two plans are one. -/
structure Bits (n m : Nat) (listed : Array Bool) : Prop where
  size : listed.size = n
  bit : ∀ j, listed.getD j false = m.testBit j
theorem Bits.zero (n : Nat) : Bits n 0 (Array.replicate n false) := ⟨by simp, fun j => by
  simp only [Array.getD_eq_getD_getElem?, Nat.zero_testBit, Array.getElem?_replicate]
  split <;> rfl⟩
theorem Bits.set {n m : Nat} {listed : Array Bool} (h : Bits n m listed) {i : Nat} (hi : i < n) : Bits n (m ||| 2 ^ i) (listed.setIfInBounds i true) := ⟨by simp [h.size], fun j => by
  rw [Nat.testBit_or, Nat.testBit_two_pow]
  by_cases hij : i = j
  · subst hij
    have : i < listed.size := by rw [h.size]; exact hi
    simp [this]
  · rw [getD_set_ne false hij, h.bit]
    simp [hij]⟩
theorem Bits.bitT {n m : Nat} {listed : Array Bool} (h : Bits n m listed) {j : Nat} (hj : j < n) : listed.getD j true = m.testBit j := by
  rw [← h.bit]
  have : j < listed.size := by rw [h.size]; exact hj
  simp [this]
theorem sub_iff {a m : Nat} : Nat.beq (a ||| m) m = true ↔ ∀ j, a.testBit j = true → m.testBit j = true := by
  rw [Nat.beq_eq]
  constructor
  · intro h j hj
    rw [← h, Nat.testBit_or, hj]; rfl
  · intro h
    refine Nat.eq_of_testBit_eq fun j => ?_
    rw [Nat.testBit_or]
    cases ha : a.testBit j
    · simp
    · simp [h j ha]
theorem onM_bit : ∀ (l : List Edge) (j : Nat), (onM l).testBit j = true ↔ ∃ e ∈ l, Region.binds .any e = true ∧ e.on = j
  | [], j => by simp [onM]
  | e :: l, j => by
    simp only [onM]
    split
    · rename_i hb
      rw [Nat.testBit_or, Bool.or_eq_true, onM_bit l j, Nat.testBit_two_pow]
      simp [hb]
    · rename_i hb
      rw [onM_bit l j]
      simp [hb]
theorem readyM_eq {m : Nat} {listed : Array Bool} (h : Bits ops.size m listed) : readyM ops m = Region.ready .any ops listed := by
  unfold readyM Region.ready
  refine List.filter_congr fun i hi => ?_
  have hlt : i < ops.size := List.mem_range.1 hi
  rw [h.bitT hlt]
  congr 1
  have ho : ops[i]? = some ops[i] := Array.getElem?_eq_getElem hlt
  simp only [rdyM, ho, Option.map_some, Option.getD_some]
  rw [Bool.eq_iff_iff, sub_iff, Array.all_eq_true_iff_forall_mem]
  constructor
  · intro h1 e he
    cases hb : Region.binds .any e
    · rfl
    · rw [h.bit]
      simpa using h1 e.on ((onM_bit _ _).2 ⟨e, by simpa using he, hb, rfl⟩)
  · intro h1 j hj
    obtain ⟨e, he, hb, rfl⟩ := (onM_bit _ _).1 hj
    have := h1 e (by simpa using he)
    rw [hb, h.bit] at this
    simpa using this
theorem badL_bit {calm : Nat → Bool} {i : Nat} {oi : Oper} {ld : Bool} : ∀ (l : List Nat) (k : Nat), (badL ops calm i oi ld l).testBit k = true ↔ k ∈ l ∧ ¬ (freeJ ops calm i oi ld k = true)
  | [], k => by simp [badL]
  | j :: l, k => by
    simp only [badL]
    split
    · rename_i hj
      rw [badL_bit l k, List.mem_cons]
      constructor
      · rintro ⟨h1, h2⟩; exact ⟨Or.inr h1, h2⟩
      · rintro ⟨rfl | h1, h2⟩
        · exact absurd hj h2
        · exact ⟨h1, h2⟩
    · rename_i hj
      rw [Nat.testBit_or, Bool.or_eq_true, badL_bit l k, Nat.testBit_two_pow, List.mem_cons]
      constructor
      · rintro (h1 | ⟨h1, h2⟩)
        · have : j = k := by simpa using h1
          subst this
          exact ⟨Or.inl rfl, hj⟩
        · exact ⟨Or.inr h1, h2⟩
      · rintro ⟨rfl | h1, h2⟩
        · left; simp
        · exact Or.inr ⟨h1, h2⟩
theorem apart_iff {a m k : Nat} {listed : Array Bool} (h : Bits k m listed) (ha : ∀ j, a.testBit j = true → j < k) : Nat.beq (a &&& m) 0 = (List.range k).all fun j => !(a.testBit j && listed.getD j true) := by
  rw [Bool.eq_iff_iff, Nat.beq_eq, List.all_eq_true]
  constructor
  · intro h1 j hj
    have h2 : (a &&& m).testBit j = false := by rw [h1]; simp
    rw [Nat.testBit_and] at h2
    rw [h.bitT (List.mem_range.1 hj), h2]; rfl
  · intro h1
    refine Nat.eq_of_testBit_eq fun j => ?_
    rw [Nat.testBit_and, Nat.zero_testBit]
    cases haj : a.testBit j with
    | false => rfl
    | true =>
      have hlt := ha j haj
      have h2 := h1 j (List.mem_range.2 hlt)
      rw [h.bitT hlt, haj] at h2
      simpa using h2
theorem takeM_eq {m : Nat} {listed : Array Bool} (h : Bits ops.size m listed) {i : Nat} (hi : i ∈ readyM ops m) : takeM P n ops m i = takeI P n ops listed i := by
  have hc : (Region.ready .any ops listed).contains i = true := by rw [← readyM_eq h]; simpa using hi
  unfold takeM badI takeI
  cases compI P n ops i with
  | none => rfl
  | some co =>
    cases hld : co.k.valLd with
    | none => simp [hld]
    | some ld =>
      simp only [hld]
      unfold takeOk
      rw [hc, Bool.true_and]
      cases ho : ops[i]? with
      | none => simp
      | some oi =>
        simp only []
        rw [apart_iff h (fun j hj => by obtain ⟨oj, hoj, _⟩ := depD_ok ops i j hj; exact (Array.getElem?_eq_some_iff.1 hoj).1)]
        congr 1
        rw [Bool.eq_iff_iff, sub_iff, List.all_eq_true]
        have hfr : ∀ j, (j == i || listed.getD j true || match ops[j]? with
            | some oj => (depD ops i).testBit j || (oi.apart ops oj && (!ld || calmI P n ops j))
            | none => true) = (freeJ ops (calmI P n ops) i oi ld j || listed.getD j true) := by
          intro j
          unfold freeJ
          cases (j == i) <;> cases listed.getD j true <;> simp <;> rfl
        constructor
        · intro h1 j hj
          have hlt := List.mem_range.1 hj
          have h2 := h1 j
          rw [badL_bit] at h2
          refine (hfr j).trans ?_
          rw [h.bitT hlt, Bool.or_eq_true]
          by_cases hb : freeJ ops (calmI P n ops) i oi ld j = true
          · exact Or.inl hb
          · exact Or.inr (h2 ⟨hj, hb⟩)
        · intro h1 j hj
          rw [badL_bit] at hj
          have h2 := (hfr j).symm.trans (h1 j hj.1)
          rw [h.bitT (List.mem_range.1 hj.1), Bool.or_eq_true] at h2
          rcases h2 with h2 | h2
          · exact absurd h2 hj.2
          · exact h2
theorem find_eq {m : Nat} {listed : Array Bool} (h : Bits ops.size m listed) : (readyM ops m).find? (takeM P n ops m) = (Region.ready .any ops listed).find? (takeI P n ops listed) := by
  rw [readyM_eq h]
  have key : ∀ l : List Nat, (∀ i ∈ l, takeM P n ops m i = takeI P n ops listed i) → l.find? (takeM P n ops m) = l.find? (takeI P n ops listed) := by
    intro l
    induction l with
    | nil => intro _; rfl
    | cons a l ih =>
      intro hl
      simp only [List.find?_cons, hl a (List.mem_cons_self ..)]
      rw [ih fun i hi => hl i (List.mem_cons_of_mem _ hi)]
  exact key _ fun i hi => takeM_eq h (by rw [readyM_eq h]; exact hi)
theorem ready_lt {listed : Array Bool} {i : Nat} (h : i ∈ Region.ready .any ops listed) : i < ops.size := by
  unfold Region.ready at h
  exact List.mem_range.1 (List.mem_filter.1 h).1
theorem planDM_eq : ∀ (fuel m : Nat) (listed : Array Bool), Bits ops.size m listed → planDM P n ops fuel m = planD P n ops fuel listed
  | 0, m, listed, h => by simp only [planDM, planD, readyM_eq h]
  | fuel + 1, m, listed, h => by
    have ih : ∀ i, i ∈ Region.ready .any ops listed → planDM P n ops fuel (m ||| 2 ^ i) = planD P n ops fuel (listed.setIfInBounds i true) := fun i hi => planDM_eq fuel _ _ (h.set (ready_lt hi))
    simp only [planDM, planD]
    have hf := find_eq (P := P) (n := n) h
    rw [readyM_eq h] at hf ⊢
    cases hr : Region.ready .any ops listed with
    | nil => rfl
    | cons a l =>
      rw [hr] at ih hf
      simp only []
      rw [hf]
      cases hfi : (a :: l).find? (takeI P n ops listed) with
      | some i => simp only []; rw [ih i (List.mem_of_find?_eq_some hfi)]
      | none =>
        cases l with
        | nil => simp only []; rw [ih a (List.mem_cons_self ..)]
        | cons b l => rfl
end
end Go.Proofs.YthlehngbadianaaDoor.Ow
namespace Go.Proofs.YthlehngbadianaaDoor.Ow
open Go Go.RowKit
inductive Kn where
  | c (x : CC)
  | b (id : Nat)
  | o (l : List CO)
  | i (I : Post)
  | t (t : PT)
/-- Shown of each code that is compiled to it. -/
def CW (P : Program) (n : Nat) (x : CC) (st : St) (Q : Exit → Post) : Prop := ∀ code, compC P n code = some x.strip → AW P n code st Q
def semQ (P : Program) (n : Nat) : List Kn → (Exit → Post) → Exit → Post
  | [], Q, e => Q e
  | .c x :: ks, Q, .normal => fun st => CW P n x st (semQ P n ks Q)
  | .c _ :: ks, Q, e => semQ P n ks Q e
  | .o l :: ks, Q, .normal => fun st => semL P l st (semQ P n ks Q .normal)
  | .o _ :: ks, Q, e => semQ P n ks Q e
  | .t t :: ks, Q, .normal => fun st => semT P t st (semQ P n ks Q .normal)
  | .t _ :: ks, Q, e => semQ P n ks Q e
  | .i I :: _, _, .normal => I
  | .i _ :: ks, Q, e => semQ P n ks Q e
  | .b id :: ks, Q, e => blockQ id (semQ P n ks Q) e
/-- What is to be shown: of the rest of a code, at a state. -/
def W (P : Program) (n : Nat) (ks : List Kn) (Q : Exit → Post) (st : St) : Prop := semQ P n ks Q .normal st
def exitTo (id : Nat) : List Kn → Option (List Kn)
  | [] => none
  | .b id' :: ks => if id = id' then some ks else exitTo id ks
  | .c _ :: ks => exitTo id ks
  | .o _ :: ks => exitTo id ks
  | .i _ :: ks => exitTo id ks
  | .t _ :: ks => exitTo id ks
theorem semQ_exit {P : Program} {n : Nat} {id : Nat} : ∀ (ks : List Kn) (Q : Exit → Post), (∀ ks', exitTo id ks = some ks' → semQ P n ks Q (.exit id) = semQ P n ks' Q .normal) ∧ (exitTo id ks = none → semQ P n ks Q (.exit id) = Q (.exit id))
  | [], Q => ⟨by simp [exitTo], fun _ => rfl⟩
  | .c _ :: ks, Q => semQ_exit ks Q
  | .o _ :: ks, Q => semQ_exit ks Q
  | .i _ :: ks, Q => semQ_exit ks Q
  | .t _ :: ks, Q => semQ_exit ks Q
  | .b id' :: ks, Q => by
    obtain ⟨h1, h2⟩ := semQ_exit (P := P) (n := n) (id := id) ks Q
    simp only [exitTo, semQ, blockQ]
    by_cases h : id = id'
    · subst h; simp
    · rw [if_neg h, if_neg h]; exact ⟨h1, h2⟩
theorem semQ_ret {P : Program} {n : Nat} : ∀ (ks : List Kn) (Q : Exit → Post), semQ P n ks Q .ret = Q .ret
  | [], Q => rfl
  | .c _ :: ks, Q => semQ_ret ks Q
  | .o _ :: ks, Q => semQ_ret ks Q
  | .i _ :: ks, Q => semQ_ret ks Q
  | .t _ :: ks, Q => semQ_ret ks Q
  | .b id' :: ks, Q => by simp only [semQ, blockQ]; exact semQ_ret ks Q
section
variable {P : Program} {n : Nat} {ts : List Nat} {st : St} {Q : Exit → Post} {ks : List Kn}
theorem CW.mono {x : CC} {Q' : Exit → Post} (h : CW P n x st Q) (hq : ∀ e st', Q e st' → Q' e st') : CW P n x st Q' := fun code hc => (h code hc).mono hq
theorem CW_skip (h : Q .normal st) : CW P n .skip st Q := by
  intro code hc
  cases code <;> (try simp only [compC, CC.strip] at hc)
  case skip => exact AW_skip h
  all_goals (first | simp at hc; done | (repeat' split at hc) <;> simp at hc; done | (rename_i dr; cases dr <;> simp only [compC] at hc <;> (repeat' split at hc) <;> simp at hc))
theorem CW_exit {id : Nat} (h : Q (.exit id) st) : CW P n (.exit id) st Q := by
  intro code hc
  cases code <;> (try simp only [compC, CC.strip] at hc)
  case exit => simp only [Option.some.injEq, CC.exit.injEq] at hc; subst hc; exact AW_exit h
  all_goals (first | simp at hc; done | (repeat' split at hc) <;> simp at hc; done | (rename_i dr; cases dr <;> simp only [compC] at hc <;> (repeat' split at hc) <;> simp at hc))
theorem CW_ret (h : Q .ret st) : CW P n .ret st Q := by
  intro code hc
  cases code <;> (try simp only [compC, CC.strip] at hc)
  case ret => exact AW_ret h
  all_goals (first | simp at hc; done | (repeat' split at hc) <;> simp at hc; done | (rename_i dr; cases dr <;> simp only [compC] at hc <;> (repeat' split at hc) <;> simp at hc))
theorem CW_seq {a b : CC} (h : CW P n a st (semQ P n (.c b :: ks) Q)) : CW P n (.seq a b) st (semQ P n ks Q) := by
  intro code hc
  cases code <;> (try simp only [compC, CC.strip] at hc)
  case seq x y =>
    split at hc
    · rename_i a' b' h1 h2
      simp only [Option.some.injEq, CC.seq.injEq] at hc
      obtain ⟨rfl, rfl⟩ := hc
      refine AW_seq ((h x h1).mono ?_)
      intro e st' hq
      cases e <;> first | exact hq | exact hq y h2
    · simp at hc
  all_goals (first | simp at hc; done | (repeat' split at hc) <;> simp at hc; done | (rename_i dr; cases dr <;> simp only [compC] at hc <;> (repeat' split at hc) <;> simp at hc))
theorem CW_block {id : Nat} {a : CC} (h : CW P n a st (semQ P n (.b id :: ks) Q)) : CW P n (.block id a) st (semQ P n ks Q) := by
  intro code hc
  cases code <;> (try simp only [compC, CC.strip] at hc)
  case block id' x =>
    split at hc
    · rename_i a' h1
      simp only [Option.some.injEq, CC.block.injEq] at hc
      obtain ⟨rfl, rfl⟩ := hc
      exact AW_block ((h x h1).mono fun e st' hq => hq)
    · simp at hc
  all_goals (first | simp at hc; done | (repeat' split at hc) <;> simp at hc; done | (rename_i dr; cases dr <;> simp only [compC] at hc <;> (repeat' split at hc) <;> simp at hc))
theorem CW_cond {c : Opd} {a b : CC} {t : Bool} (hc0 : st.ev c = some (.v (.bool t))) (h1 : t = true → CW P n a st Q) (h2 : t = false → CW P n b st Q) : CW P n (.cond c a b) st Q := by
  intro code hc
  cases code <;> (try simp only [compC, CC.strip] at hc)
  case cond c' x y =>
    split at hc
    · rename_i oc a' b' e1 e2 e3
      simp only [Option.some.injEq, CC.cond.injEq] at hc
      obtain ⟨rfl, rfl, rfl⟩ := hc
      refine AW_cond e1 hc0 ?_
      cases t
      · exact h2 rfl y e3
      · exact h1 rfl x e2
    · simp at hc
  all_goals (first | simp at hc; done | (repeat' split at hc) <;> simp at hc; done | (rename_i dr; cases dr <;> simp only [compC] at hc <;> (repeat' split at hc) <;> simp at hc))
theorem CW_region (hn : n ≤ 1000) (hm : P.follows .mixedOrders = true) {l : List CO} (h : semL P l st (Q .normal)) : CW P n (.region l) st Q := by
  intro code hc
  cases code <;> (try simp only [compC, CC.strip] at hc)
  case region id ops draw =>
    cases draw
    · simp only [compC] at hc
      split at hc
      · rename_i l' h1
        simp only [Option.some.injEq, CC.region.injEq] at hc
        subst hc
        exact AW_region (AOps_of hn _ l st h1 h)
      · simp at hc
    · simp only [compC] at hc
      split at hc
      · rename_i hns
        split at hc
        · rename_i l' h1
          simp only [Option.some.injEq, CC.region.injEq] at hc
          subst hc
          rw [planDM_eq _ _ _ (Bits.zero ops.size)] at h1
          exact AW_draw hm (calmI P n ops) (AAny_of hn hns _ _ l st h1 h)
        · split at hc <;> simp at hc
      · simp at hc
  all_goals (first | simp at hc; done | (repeat' split at hc) <;> simp at hc; done | (rename_i dr; cases dr <;> simp only [compC] at hc <;> (repeat' split at hc) <;> simp at hc))
theorem CW_ghost {x : CC} {st' : St} (hg : Ghost st st') (h : CW P n x st' Q) : CW P n x st Q := fun code hc => AW.ghost hg (h code hc)
end
end Go.Proofs.YthlehngbadianaaDoor.Ow
