/- Equality of arrays and structs of plain values. -/
import Derived.Test.YthlehngbadianaaOwVal
import Derived.DeepKeys
set_option linter.unusedVariables false
set_option linter.unusedSimpArgs false
set_option linter.unnecessarySimpa false
namespace Go.Proofs.Ythlehngbadianaa.Ow
open Go Go.RowKit

def eqF (P : Program) (g : TypeId → Option (List Nat)) : List Field → Nat → Option (List Nat)
  | [], off => some []
  | f :: fs, off => if f.name ≠ "_" ∧ f.offset = off then match g f.type with
      | some ks => if P.cellsOf f.type = ks.length ∧ (P.info? f.type).isSome = true then (eqF P g fs (off + ks.length)).map (ks ++ ·) else none
      | none => none
    else none
/-- A type's cells' kinds, if they are compared one by one. -/
def eqN (P : Program) : Nat → TypeId → Option (List Nat)
  | 0, _ => none
  | d + 1, t => match P.underlying t with
    | some .bool => some [0]
    | some (.int _) => some [1]
    | some .string => some [2]
    | some (.array n e) => match eqN P d e with
      | some ks => if P.cellsOf e = ks.length ∧ (P.info? e).isSome = true then some (List.replicate n ks).flatten else none
      | none => none
    | some (.struct fs) => if P.stoodInHeld t = false then eqF P (eqN P d) fs.toList 0 else none
    | _ => none
def isWide (P : Program) (t : TypeId) : Bool :=
  match P.underlying t with
  | some (.array _ _) => true
  | some (.struct _) => true
  | _ => false
def mkF (P : Program) (t : TypeId) (cs : List Value) : Value := if isWide P t = true then .agg cs.toArray else cs.headD undef
def eqLV (as bs : List Value) : Option Bool := eqL (as.map .v) (bs.map .v)

theorem eqLV_append : ∀ (a1 b1 a2 b2 : List Value) (r : Bool), a1.length = b1.length → eqLV (a1 ++ a2) (b1 ++ b2) = some r → ∃ r1 r2, eqLV a1 b1 = some r1 ∧ eqLV a2 b2 = some r2 ∧ r = (r1 && r2)
  | [], [], a2, b2, r, _, h => ⟨true, r, rfl, h, rfl⟩
  | [], b :: b1, a2, b2, r, hl, h => by simp at hl
  | a :: a1, [], a2, b2, r, hl, h => by simp at hl
  | a :: a1, b :: b1, a2, b2, r, hl, h => by
    simp only [eqLV, List.cons_append, List.map_cons, eqL] at h
    split at h
    · rename_i x y h1 h2
      obtain ⟨r1, r2, k1, k2, k3⟩ := eqLV_append a1 b1 a2 b2 y (by simpa using hl) (by simpa only [eqLV] using h2)
      obtain rfl := Option.some.inj h
      refine ⟨x && r1, r2, ?_, k2, by rw [k3, Bool.and_assoc]⟩
      simp only [eqLV, List.map_cons, eqL, h1]
      simp only [eqLV] at k1
      rw [k1]
    · simp at h
def fitV (ks : List Nat) (as : List Value) : Bool := fitL ks (as.map .v)
theorem fitL_length : ∀ (ks : List Nat) (as : List AV), fitL ks as = true → as.length = ks.length
  | [], [], _ => rfl
  | [], a :: as, h => by simp [fitL] at h
  | k :: ks, [], h => by simp [fitL] at h
  | k :: ks, a :: as, h => by
    simp only [fitL, Bool.and_eq_true] at h
    simp [fitL_length ks as h.2]
theorem fitV_length {ks : List Nat} {as : List Value} (h : fitV ks as = true) : as.length = ks.length := by simpa using fitL_length _ _ h
theorem fitV_append : ∀ (k1 k2 : List Nat) (a1 a2 : List Value), k1.length = a1.length → fitV (k1 ++ k2) (a1 ++ a2) = true → fitV k1 a1 = true ∧ fitV k2 a2 = true
  | [], k2, [], a2, _, h => ⟨rfl, h⟩
  | [], k2, a :: a1, a2, hl, h => by simp at hl
  | k :: k1, k2, [], a2, hl, h => by simp at hl
  | k :: k1, k2, a :: a1, a2, hl, h => by
    simp only [fitV, List.cons_append, List.map_cons, fitL, Bool.and_eq_true] at h ⊢
    obtain ⟨g1, g2⟩ := fitV_append k1 k2 a1 a2 (by simpa using hl) h.2
    exact ⟨⟨h.1, g1⟩, g2⟩
theorem eqLV_length : ∀ (as bs : List Value) (r : Bool), eqLV as bs = some r → as.length = bs.length
  | [], [], _, _ => rfl
  | [], b :: bs, _, h => by simp [eqLV, eqL] at h
  | a :: as, [], _, h => by simp [eqLV, eqL] at h
  | a :: as, b :: bs, r, h => by
    simp only [eqLV, List.map_cons, eqL] at h
    split at h
    · rename_i x y h1 h2
      have := eqLV_length as bs y h2
      simp [this]
    · simp at h

section
variable {P : Program}
theorem eqN_one {d : Nat} {t : TypeId} {ks : List Nat} (h : eqN P d t = some ks) (hw : isWide P t = false) : ks.length = 1 := by
  cases d with
  | zero => simp [eqN] at h
  | succ d =>
    unfold eqN at h
    unfold isWide at hw
    split at h <;> simp_all
    all_goals (subst h; rfl)
theorem run_isAgg_of {w : World} {t : TypeId} {d : Nat} {ks : List Nat} (h : eqN P d t = some ks) : (isAgg t).run P w = .ok (isWide P t) w := by
  cases d with
  | zero => simp [eqN] at h
  | succ d =>
    unfold eqN at h
    unfold isWide
    cases hu : P.underlying t with
    | none => rw [hu] at h; simp at h
    | some kd =>
      rw [hu] at h
      cases kd <;> first | (simp at h; done) | simp [isAgg, run_underlying hu]
theorem run_part_flat {w : World} {e : TypeId} {d off : Nat} {ks : List Nat} {xs : Array Value} (hn : eqN P d e = some ks) (hc : P.cellsOf e = ks.length) (hi : (P.info? e).isSome = true) (hl : off + ks.length ≤ xs.size) :
    (part e xs off).run P w = .ok (mkF P e ((xs.toList.drop off).take ks.length)) w := by
  obtain ⟨i, hi⟩ := Option.isSome_iff_exists.1 hi
  unfold part
  simp only [Sem.run_bind, run_isAgg_of hn, Result.andThen_ok]
  unfold mkF
  cases hw : isWide P e with
  | true =>
    simp only [if_true, Sem.run_bind, run_sizeOf w hi, Result.andThen_ok, Sem.run_pure, hc]
    congr 2
    apply Array.ext'
    simp [Array.toList_extract, List.extract]
  | false =>
    have hk := eqN_one hn hw
    rw [hk] at hl ⊢
    have : xs[off]? = some xs[off] := Array.getElem?_eq_getElem (by omega)
    simp only [Bool.false_eq_true, if_false, this, Sem.run_pure]
    congr 1
    rw [List.drop_eq_getElem_cons (by simp; omega)]
    simp

def EqS (P : Program) (D : Nat) (e : TypeId) (ks : List Nat) : Prop :=
  ∀ (w : World) (as bs : List Value) (r : Bool), fitV ks as = true → eqLV as bs = some r → (Op.equalIn D e (mkF P e as) (mkF P e bs)).run P w = .ok r w

theorem chunk {α : Type} (l : List α) (off k : Nat) : l.drop off = (l.drop off).take k ++ l.drop (off + k) := by
  rw [← List.drop_drop]; exact (List.take_append_drop k _).symm

theorem run_eqItems_flat {w : World} {D d : Nat} {ks : List Nat} {e : TypeId} (hn : eqN P d e = some ks) (hc : P.cellsOf e = ks.length) (hi : (P.info? e).isSome = true) (IH : EqS P D e ks) (xs ys : Array Value) (hxy : xs.size = ys.size) : ∀ (m i : Nat) (r : Bool), i * ks.length ≤ xs.size →
    fitV (List.replicate m ks).flatten (xs.toList.drop (i * ks.length)) = true → eqLV (xs.toList.drop (i * ks.length)) (ys.toList.drop (i * ks.length)) = some r → (Op.eqItems D e (P.cellsOf e) xs ys (List.range' i m)).run P w = .ok r w
  | 0, i, r, hle, hf, h => by
    have h1 := fitV_length hf
    simp only [List.replicate_zero, List.flatten_nil, List.length_nil, List.length_drop, Array.length_toList] at h1
    rw [List.drop_eq_nil_of_le (by simp; omega), List.drop_eq_nil_of_le (by simp; omega)] at h
    simp only [eqLV, List.map_nil, eqL, Option.some.injEq] at h
    subst h
    simp [Op.eqItems]
  | m + 1, i, r, hle0, hf, h => by
    have hlen := fitV_length hf
    simp only [List.replicate_succ, List.flatten_cons, List.length_append, List.length_drop, Array.length_toList] at hlen
    rw [chunk xs.toList (i * ks.length) ks.length, chunk ys.toList (i * ks.length) ks.length] at h
    rw [chunk xs.toList (i * ks.length) ks.length, List.replicate_succ, List.flatten_cons] at hf
    have l1 : ((xs.toList.drop (i * ks.length)).take ks.length).length = ks.length := by simp; omega
    have l2 : ((ys.toList.drop (i * ks.length)).take ks.length).length = ks.length := by simp; omega
    obtain ⟨r1, r2, k1, k2, rfl⟩ := eqLV_append _ _ _ _ r (by rw [l1, l2]) h
    obtain ⟨f1, f2⟩ := fitV_append _ _ _ _ l1.symm hf
    simp only [List.range'_succ, Op.eqItems, Sem.run_bind, hc, run_part_flat (w := w) hn hc hi (show i * ks.length + ks.length ≤ xs.size by omega), run_part_flat (w := w) hn hc hi (show i * ks.length + ks.length ≤ ys.size by omega), Result.andThen_ok, IH w _ _ r1 f1 k1]
    cases r1 with
    | false => simp
    | true =>
      simp only [Bool.not_true, Bool.false_eq_true, if_false, Bool.true_and]
      have e1 : (i + 1) * ks.length = i * ks.length + ks.length := by rw [Nat.add_mul]; omega
      have := run_eqItems_flat (w := w) hn hc hi IH xs ys hxy m (i + 1) r2 (by omega) (by rw [e1]; exact f2) (by rw [e1]; exact k2)
      rw [hc] at this
      exact this

theorem run_eqFields_flat {w : World} {D d : Nat} (IH : ∀ t ks, eqN P d t = some ks → EqS P D t ks) (xs ys : Array Value) (hxy : xs.size = ys.size) : ∀ (fs : List Field) (off : Nat) (ks : List Nat) (r : Bool), eqF P (eqN P d) fs off = some ks → off ≤ xs.size →
    fitV ks (xs.toList.drop off) = true → eqLV (xs.toList.drop off) (ys.toList.drop off) = some r → (Op.eqFields D xs ys fs).run P w = .ok r w
  | [], off, ks, r, hf, hle, hft, h => by
    simp only [eqF, Option.some.injEq] at hf
    subst hf
    have h1 := fitV_length hft
    simp only [List.length_nil, List.length_drop, Array.length_toList] at h1
    rw [List.drop_eq_nil_of_le (by simp; omega), List.drop_eq_nil_of_le (by simp; omega)] at h
    simp only [eqLV, List.map_nil, eqL, Option.some.injEq] at h
    subst h
    simp [Op.eqFields]
  | f :: fs, off, ks, r, hf, hle, hft, h => by
    simp only [eqF] at hf
    split at hf
    · rename_i hh
      split at hf
      · rename_i kf hk
        split at hf
        · rename_i hci
          simp only [Option.map_eq_some_iff] at hf
          obtain ⟨kr, hkr, rfl⟩ := hf
          have hlen := fitV_length hft
          simp only [List.length_append, List.length_drop, Array.length_toList] at hlen
          rw [chunk xs.toList off kf.length, chunk ys.toList off kf.length] at h
          rw [chunk xs.toList off kf.length] at hft
          have l1 : ((xs.toList.drop off).take kf.length).length = kf.length := by simp; omega
          have l2 : ((ys.toList.drop off).take kf.length).length = kf.length := by simp; omega
          obtain ⟨r1, r2, k1, k2, rfl⟩ := eqLV_append _ _ _ _ r (by rw [l1, l2]) h
          obtain ⟨f1, f2⟩ := fitV_append _ _ _ _ l1.symm hft
          simp only [Op.eqFields, ne_eq, hh.1, not_false_eq_true, if_true, hh.2, Sem.run_bind, run_part_flat (w := w) hk hci.1 hci.2 (show off + kf.length ≤ xs.size by omega), run_part_flat (w := w) hk hci.1 hci.2 (show off + kf.length ≤ ys.size by omega), Result.andThen_ok, IH _ _ hk w _ _ r1 f1 k1]
          cases r1 with
          | false => simp
          | true =>
            simp only [Bool.not_true, Bool.false_eq_true, if_false, Bool.true_and]
            exact run_eqFields_flat IH xs ys hxy fs (off + kf.length) kr r2 hkr (by omega) f2 k2
        · simp at hf
      · simp at hf
    · simp at hf

theorem run_equalIn_flat (D : Nat) : ∀ (d : Nat) (t : TypeId) (ks : List Nat), eqN P d t = some ks → EqS P (D + d) t ks
  | 0, t, ks, h => by simp [eqN] at h
  | d + 1, t, ks, h => by
    intro w as bs r hf he
    have hab := eqLV_length _ _ _ he
    have hlen := fitV_length hf
    have one : ∀ k, ks = [k] → ∃ a b, as = [a] ∧ bs = [b] ∧ fit1 k (.v a) = true ∧ eq1 (.v a) (.v b) = some r := by
      rintro k rfl
      match as, bs, hlen, hab with
      | [a], [b], _, _ =>
        refine ⟨a, b, rfl, rfl, by simpa [fitV, fitL] using hf, ?_⟩
        simp only [eqLV, List.map_cons, List.map_nil, eqL] at he
        split at he
        · rename_i x y h1 h2
          rw [h1]; simp only [Option.some.injEq] at h2 he ⊢; subst h2; simpa using he
        · simp at he
    unfold eqN at h
    cases hu : P.underlying t with
    | none => rw [hu] at h; simp at h
    | some kd =>
      rw [hu] at h
      cases kd <;> first | (simp at h; done) | skip
      case bool =>
        obtain ⟨a, b, rfl, rfl, h1, h2⟩ := one 0 (Option.some.inj h).symm
        simp only [mkF, isWide, hu, Bool.false_eq_true, if_false, List.headD_cons]
        cases a <;> simp only [fit1, Bool.false_eq_true] at h1
        cases b <;> simp only [eq1] at h2 <;> first | (simp at h2; done) | skip
        obtain rfl := Option.some.inj h2
        rw [show D + (d + 1) = (D + d) + 1 from rfl]
        simp [Op.equalIn, run_underlying hu]
      case int q =>
        obtain ⟨a, b, rfl, rfl, h1, h2⟩ := one 1 (Option.some.inj h).symm
        simp only [mkF, isWide, hu, Bool.false_eq_true, if_false, List.headD_cons]
        cases a <;> simp only [fit1, Bool.false_eq_true] at h1
        cases b <;> simp only [eq1] at h2 <;> first | (simp at h2; done) | skip
        split at h2
        · rename_i hkk
          obtain rfl := Option.some.inj h2
          subst hkk
          rw [show D + (d + 1) = (D + d) + 1 from rfl]
          simp [Op.equalIn, run_underlying hu]
        · simp at h2
      case string =>
        obtain ⟨a, b, rfl, rfl, h1, h2⟩ := one 2 (Option.some.inj h).symm
        simp only [mkF, isWide, hu, Bool.false_eq_true, if_false, List.headD_cons]
        cases a <;> simp only [fit1, Bool.false_eq_true] at h1
        cases b <;> simp only [eq1] at h2 <;> first | (simp at h2; done) | skip
        obtain rfl := Option.some.inj h2
        rw [show D + (d + 1) = (D + d) + 1 from rfl]
        exact run_equalIn_string w (D + d) t _ _ hu
      case array n e =>
        simp only at h
        split at h
        · rename_i ke hk
          split at h
          · rename_i hci
            obtain rfl := Option.some.inj h
            obtain ⟨i, hi⟩ := Option.isSome_iff_exists.1 hci.2
            simp only [mkF, isWide, hu, if_true]
            rw [show D + (d + 1) = (D + d) + 1 from rfl, run_equalIn_array w (D + d) _ _ hu hi, List.range_eq_range']
            exact run_eqItems_flat hk hci.1 hci.2 (run_equalIn_flat D d e ke hk) _ _ (by simpa using hab) n 0 r (by simp) (by simpa using hf) (by simpa using he)
          · simp at h
        · simp at h
      case struct fs =>
        simp only at h
        split at h
        · rename_i hst
          have hfs : P.fieldsOf t = fs := by simp [Program.fieldsOf, hu]
          simp only [mkF, isWide, hu, if_true]
          rw [show D + (d + 1) = (D + d) + 1 from rfl, run_equalIn_struct w (D + d) t _ _ (by rw [hfs]; exact hu) hst, hfs]
          exact run_eqFields_flat (fun t ks ht => run_equalIn_flat D d t ks ht) _ _ (by simpa using hab) fs.toList 0 ks r h (by simp) (by simpa using hf) (by simpa using he)
        · simp at h
end
end Go.Proofs.Ythlehngbadianaa.Ow
