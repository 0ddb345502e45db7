/- The value operations give what they are said to give: the rest, and all together. -/
import Derived.Test.YthlehngbadianaaDoorOwValS
import Derived.Test.YthlehngbadianaaDoorOwValValE
set_option linter.unusedVariables false
set_option linter.unusedSimpArgs false
set_option linter.unnecessarySimpa false
namespace Go.Proofs.YthlehngbadianaaDoor.Ow
open Go Go.RowKit
def eqW (P : Program) (ng : Bool) (op : BinOp) (t : TypeId) (x y : Opd) : VE :=
  if P.eqGuardType P.depth t = false ∧ isWide P t = true then match eqN P 8 t with
    | some ks => .eqa ng ks x y
    | none => .bin op x y
  else .bin op x y
def eqK (P : Program) (op : BinOp) (t : TypeId) : Opd → Opd → VE :=
  match op, P.underlying t with
  | .eql, some .bool => .eqb false
  | .neq, some .bool => .eqb true
  | .eql, some (.pointer e) => .eqp false (sizeT P e).isSome
  | .neq, some (.pointer e) => .eqp true (sizeT P e).isSome
  | .eql, some (.slice _) => .eqs false
  | .neq, some (.slice _) => .eqs true
  | .eql, some (.array _ _) => eqW P false .eql t
  | .neq, some (.array _ _) => eqW P true .neq t
  | .eql, some (.struct _) => eqW P false .eql t
  | .neq, some (.struct _) => eqW P true .neq t
  | op, _ => .bin op
def partPl (P : Program) (t : TypeId) : Option (List Value × (Nat → Option (Nat × Nat))) :=
  match P.info? t, P.underlying t with
  | some it, some (.array _ e) =>
    match it.zero, P.info? e with
    | some z, some ie => some (z.cells.toList, fun i => some (i * ie.size, ie.size))
    | _, _ => none
  | some it, some (.struct fields) =>
    match it.zero, fields.toList.mapM (fun f => (P.info? f.type).map fun i => (f.offset, i.size)) with
    | some z, some places => some (z.cells.toList, fun i => places.toArray[i]?)
    | _, _ => none
  | _, _ => none
def compParts (pl : Nat → Option (Nat × Nat)) : List (Nat × Operand) → Option (List (Nat × Nat × Opd))
  | [] => some []
  | (i, x) :: r => match pl i, opd x, compParts pl r with
    | some (off, sz), some ox, some l => some ((off, sz, ox) :: l)
    | _, _, _ => none
section
variable {P : Program} {w : World} {F X : Fp} {env : Nat → RLoc} {n : Nat} {a : Act} {st : St} {rt : Al}
theorem binV_one {op : BinOp} {x y v : Value} (h : binV op x y = some v) : v.oneCell' = true ∧ x.oneCell' = true ∧ x ≠ .nilIface := by
  cases x <;> cases y <;> simp only [binV] at h
  case int.int k a k' b =>
    refine ⟨?_, rfl, by simp⟩
    cases op <;> simp only [intShift, intBin] at h <;> (repeat' split at h) <;> simp at h <;> subst h <;> rfl
  case string.string a b =>
    refine ⟨?_, rfl, by simp⟩
    cases op <;> simp only [strBin] at h <;> (repeat' split at h) <;> simp at h <;> subst h <;> rfl
  all_goals simp at h
theorem unV_one {op : UnOp} {x v : Value} (h : unV op x = some v) : v.oneCell' = true := by
  cases x <;> cases op <;> simp only [unV, Option.some.injEq] at h <;> first
    | (subst h; rfl)
    | simp at h
theorem gives_bin (h : Rel w F X env n a st) {op : BinOp} {t : TypeId} {x y : Operand} {ox oy : Opd} {z : AV} (hox : opd x = some ox) (hoy : opd y = some oy) (hx : veval (.bin op ox oy) st = some z) :
    Gives false P w F env st (do eqGuard op t x y (a.eval x) (a.eval y); binOp op t (a.eval x) (a.eval y)) z := by
  simp only [veval] at hx
  split at hx
  · rename_i u v h1 h2
    simp only [Option.map_eq_some_iff] at hx
    obtain ⟨r, hr, rfl⟩ := hx
    obtain ⟨e1, _⟩ := ev_val h hox h1
    obtain ⟨e2, _⟩ := ev_val h hoy h2
    obtain ⟨k1, k2, k3⟩ := binV_one hr
    refine ⟨r, fun w' _ => ?_, SV_mk k1⟩
    rw [e1, e2]
    simp only [Sem.run_bind, run_eqGuard_plain k2 k3, Result.andThen_ok, run_binV hr]
  · simp at hx
theorem gives_un (h : Rel w F X env n a st) {op : UnOp} {x : Operand} {ox : Opd} {z : AV} (hox : opd x = some ox) (hx : veval (.un op ox) st = some z) : Gives false P w F env st (Op.unary op (a.eval x)) z := by
  simp only [veval] at hx
  split at hx
  · rename_i u h1
    simp only [Option.map_eq_some_iff] at hx
    obtain ⟨r, hr, rfl⟩ := hx
    obtain ⟨e1, _⟩ := ev_val h hox h1
    exact ⟨r, fun w' _ => by rw [e1]; exact run_unV hr, SV_mk (unV_one hr)⟩
  · simp at hx
theorem gives_cvi (h : Rel w F X env n a st) {s d : TypeId} {ks k : IntKind} {x : Operand} {ox : Opd} {z : AV} (hs : P.underlying s = some (.int ks)) (hd : P.underlying d = some (.int k)) (hox : opd x = some ox) (hx : veval (.cvi k ox) st = some z) :
    Gives false P w F env st (convert s d (a.eval x)) z := by
  simp only [veval, Option.map_eq_some_iff] at hx
  obtain ⟨i, hi, rfl⟩ := hx
  obtain ⟨ik, hik⟩ := h.int hi
  refine ⟨.int k (k.wrap i), fun w' _ => ?_, SV_mk rfl⟩
  rw [← opd_to hox, hik]
  simp only [convert, Sem.run_bind, run_underlying hs, run_underlying hd, Result.andThen_ok, Conv.intToInt, Sem.run_pure]
theorem gives_is (h : Rel w F X env n a st) {t : TypeId} {x i : Operand} {ox oi : Opd} {z : AV} (hu : P.underlying t = some .string) (hox : opd x = some ox) (hoi : opd i = some oi) (hx : veval (.is ox oi) st = some z) :
    Gives false P w F env st (Instr.index t (a.eval x) (a.eval i)) z := by
  simp only [veval] at hx
  cases h1 : st.str ox with
  | none => simp [h1] at hx
  | some s =>
    cases h2 : st.int oi with
    | none => simp [h1, h2] at hx
    | some m =>
      simp only [h1, h2] at hx
      split at hx
      · rename_i hb
        obtain rfl := Option.some.inj hx
        obtain ⟨ik, hik⟩ := h.int h2
        rw [← opd_to hox, ← opd_to hoi, hik, h.str h1]
        have hlt : m.toNat < s.size := by omega
        refine ⟨_, fun w' _ => ?_, SV_mk rfl⟩
        simp only [Instr.index, asIntOf, Sem.run_bind, Sem.run_pure, Result.andThen_ok, run_underlying hu, hb.1, if_true]
        rw [getElem?_pos s m.toNat hlt]
        rfl
      · simp at hx
theorem Rel.int? (h : Rel w F X env n a st) {x : Option Operand} {o : Option Opd} {i : Option Int} (ho : x.mapM opd = some o) (hi : st.int? o = some i) :
    (x = none ∧ i = none) ∨ ∃ y k m, x = some y ∧ i = some m ∧ a.eval y = .int k m := by
  cases x with
  | none => simp at ho; subst ho; simp [St.int?] at hi; left; exact ⟨rfl, hi.symm⟩
  | some y =>
    simp only [Option.mapM_some, Option.map_eq_map, Option.map_eq_some_iff] at ho
    obtain ⟨oy, hoy, rfl⟩ := ho
    simp only [St.int?, Option.map_eq_some_iff] at hi
    obtain ⟨m, hm, rfl⟩ := hi
    obtain ⟨k, hk⟩ := h.int hm
    right
    exact ⟨y, k, m, rfl, rfl, by rw [← opd_to hoy]; exact hk⟩
theorem run_sliceBound {k : IntKind} {i : Int} {y : Nat} {c : BoundsCode} (h0 : 0 ≤ i) (h1 : i ≤ (y : Int)) : (Instr.sliceBound (.int k i) y c).run P w = .ok i.toNat w := by
  simp only [Instr.sliceBound, asIntOf, Sem.run_bind, Sem.run_pure, Result.andThen_ok, h0, h1, and_self, if_true]
theorem run_bounds (isSl : Bool) {len cap : Nat} {lo hi mx : Option Value} {l h m : Option Int} {b : Nat × Nat × Nat} (hb : okBounds len l h m = some b) (hlc : len ≤ cap) (hmh : mx.isSome = true → hi.isSome = true)
    (hl : (lo = none ∧ l = none) ∨ ∃ k i, lo = some (.int k i) ∧ l = some i) (hh : (hi = none ∧ h = none) ∨ ∃ k i, hi = some (.int k i) ∧ h = some i) (hm : (mx = none ∧ m = none) ∨ ∃ k i, mx = some (.int k i) ∧ m = some i) :
    (∀ w, (Instr.sliceBounds isSl len cap lo hi mx).run P w = .ok (b.1, b.2.1, if mx.isSome then b.2.2 else cap) w) ∧ b.1 ≤ b.2.1 ∧ b.2.1 ≤ b.2.2 ∧ b.2.2 ≤ len := by
  simp only [okBounds] at hb
  split at hb
  · rename_i hc
    obtain rfl := Option.some.inj hb
    obtain ⟨h1, h2, h3, h4⟩ := hc
    refine ⟨fun w => ?_, by simp only; omega, by simp only; omega, by simp only; omega⟩
    rcases hm with ⟨rfl, rfl⟩ | ⟨km, im, rfl, rfl⟩
    · rcases hh with ⟨rfl, rfl⟩ | ⟨kh, ih, rfl, rfl⟩
      · rcases hl with ⟨rfl, rfl⟩ | ⟨kl, il, rfl, rfl⟩
        · simp only [Instr.sliceBounds, Sem.run_bind, Sem.run_pure, Result.andThen_ok, Option.getD_none, Option.isSome_none]
          simp
        · simp only [Option.getD_none, Option.getD_some] at h1 h2 h3 h4
          simp only [Instr.sliceBounds, Sem.run_bind, Sem.run_pure, Result.andThen_ok, Option.getD_none, Option.getD_some, Option.isSome_none, run_sliceBound h1 h2]
          simp
      · simp only [Option.getD_none, Option.getD_some] at h1 h2 h3 h4
        have e1 : 0 ≤ ih := by omega
        have e2 : ih ≤ (cap : Int) := by omega
        rcases hl with ⟨rfl, rfl⟩ | ⟨kl, il, rfl, rfl⟩
        · simp only [Instr.sliceBounds, Sem.run_bind, Sem.run_pure, Result.andThen_ok, Option.getD_none, Option.getD_some, Option.isSome_none, run_sliceBound e1 e2]
          simp
        · simp only [Option.getD_some] at h1 h2
          have e3 : il ≤ (ih.toNat : Int) := by omega
          simp only [Instr.sliceBounds, Sem.run_bind, Sem.run_pure, Result.andThen_ok, Option.getD_none, Option.getD_some, Option.isSome_none, run_sliceBound e1 e2, run_sliceBound h1 e3]
          simp
    · rcases hh with ⟨rfl, rfl⟩ | ⟨kh, ih, rfl, rfl⟩
      · simp at hmh
      · simp only [Option.getD_none, Option.getD_some] at h1 h2 h3 h4
        have e0 : 0 ≤ im := by omega
        have e00 : im ≤ (cap : Int) := by omega
        have e1 : 0 ≤ ih := by omega
        have e2 : ih ≤ (im.toNat : Int) := by omega
        rcases hl with ⟨rfl, rfl⟩ | ⟨kl, il, rfl, rfl⟩
        · simp only [Instr.sliceBounds, Sem.run_bind, Sem.run_pure, Result.andThen_ok, Option.getD_none, Option.getD_some, Option.isSome_some, if_true, run_sliceBound e0 e00, run_sliceBound e1 e2]
          simp
        · simp only [Option.getD_some] at h1 h2
          have e3 : il ≤ (ih.toNat : Int) := by omega
          simp only [Instr.sliceBounds, Sem.run_bind, Sem.run_pure, Result.andThen_ok, Option.getD_none, Option.getD_some, Option.isSome_some, if_true, run_sliceBound e0 e00, run_sliceBound e1 e2, run_sliceBound h1 e3]
  · simp at hb
theorem bound_arg (h : Rel w F X env n a st) {x : Option Operand} {o : Option Opd} {i : Option Int} (ho : x.mapM opd = some o) (hi : st.int? o = some i) : (x.map a.eval = none ∧ i = none) ∨ ∃ k m, x.map a.eval = some (.int k m) ∧ i = some m := by
  rcases h.int? ho hi with ⟨rfl, rfl⟩ | ⟨y, k, m, rfl, rfl, he⟩
  · left; exact ⟨rfl, rfl⟩
  · right; exact ⟨k, m, by simp [he], rfl⟩
theorem gives_ss (h : Rel w F X env n a st) {t : TypeId} {x : Operand} {lo hi : Option Operand} {ox : Opd} {ol oh : Option Opd} {z : AV} (hu : P.underlying t = some .string) (hox : opd x = some ox) (hol : lo.mapM opd = some ol) (hoh : hi.mapM opd = some oh)
    (hx : veval (.ss ox ol oh) st = some z) : Gives false P w F env st (Instr.sliceAt t (a.eval x) (lo.map a.eval) (hi.map a.eval) (Option.map a.eval none)) z := by
  simp only [veval] at hx
  cases h1 : st.str ox with
  | none => simp [h1] at hx
  | some s =>
    cases h2 : st.int? ol with
    | none => simp [h1, h2] at hx
    | some l =>
      cases h3 : st.int? oh with
      | none => simp [h1, h2, h3] at hx
      | some hh =>
        simp only [h1, h2, h3, Option.map_eq_some_iff] at hx
        obtain ⟨b, hb, rfl⟩ := hx
        have hr := (run_bounds (P := P) false hb (Nat.le_refl _) (by simp) (bound_arg h hol h2) (bound_arg h hoh h3) (Or.inl ⟨rfl, rfl⟩)).1
        refine ⟨.string (s.extract b.1 b.2.1), fun w' _ => ?_, SV_mk rfl⟩
        rw [← opd_to hox, h.str h1]
        simp only [Instr.sliceAt, Instr.slice, Sem.run_bind, run_underlying hu, Result.andThen_ok, Option.map_none, Option.isSome_none, Bool.false_eq_true, if_false, hr, Sem.run_pure]
theorem slOff_lst {es : Nat} {xs : List AV} {u : Value} {l m M : Nat} {B o cap : Nat} (hv : Rep w F (.lst es xs) (.slice (some ⟨B, o, none⟩) xs.length cap) E0) (h1 : l + m ≤ xs.length) (h2 : l + m ≤ M) (h3 : M ≤ cap) :
    Rep w F (.lst es ((xs.drop l).take m)) (.slice (if M = l then some ⟨B, o, none⟩ else some ⟨B, o + l * es, none⟩) m (M - l)) E0 := by
  have hyl : ((xs.drop l).take m).length = m := by simp; omega
  have hget : ∀ (i : Nat) x, ((xs.drop l).take m)[i]? = some x → i < m ∧ xs[l + i]? = some x := by
    intro i x hx
    rw [List.getElem?_take] at hx
    split at hx
    · rename_i hi; rw [List.getElem?_drop] at hx; exact ⟨hi, hx⟩
    · simp at hx
  generalize hu : Value.slice (some ⟨B, o, none⟩) xs.length cap = u at hv
  cases hv with
  | lstN hT =>
    simp only [Value.slice.injEq] at hu
    obtain ⟨rfl, _, rfl⟩ := hu
    simp only [List.length_nil] at h1
    obtain ⟨rfl, rfl, rfl⟩ : l = 0 ∧ m = 0 ∧ M = 0 := by omega
    simp only [List.drop_nil, List.take_nil, Nat.sub_self]
    exact .lstN hT
  | lst u1 hes hcap hlen hc hf hr hT =>
    simp only [Value.slice.injEq, Option.some.injEq, Addr.mk.injEq, and_true] at hu
    obtain ⟨⟨rfl, rfl⟩, _, rfl⟩ := hu
    have hcoe : m = ((xs.drop l).take m).length := hyl.symm
    by_cases hM : M = l
    · have hm0 : m = 0 := by omega
      subst hm0
      rw [if_pos hM]
      simp only [List.take_zero]
      exact Rep.lst (xs := []) (fun _ _ => undef) hes (Nat.zero_le _) (by simp) (by simp) (by simp) (by simp) hT
    · rw [if_neg hM]
      have key := Rep.lst (w := w) (F := F) (es := es) (xs := (xs.drop l).take m) (B := B) (o := o + l * es) (cap := M - l) (T := E0) (fun i j => u1 (l + i) j) hes (by rw [hyl]; omega)
        (fun i x hx => hlen _ x (hget i x hx).2)
        (fun i x j c hx hj => by
          rw [← hc _ x j c (hget i x hx).2 hj]
          congr 2
          rw [Nat.add_mul]; omega)
        (fun i j hi hj => by
          have := hf (l + i) j (by omega) hj
          rwa [Nat.add_mul, ← Nat.add_assoc] at this)
        (fun i x j c hx hj => hr _ x j c (hget i x hx).2 hj) hT
      rw [hyl] at key
      exact key
theorem gives_sl (h : Rel w F X env n a st) {t e : TypeId} {x : Operand} {lo hi mx : Option Operand} {ox : Opd} {ol oh om : Option Opd} {es : Nat} {z : AV} (hu : P.underlying t = some (.slice e)) (hs : sizeT P e = some es) (hmh : mx.isSome = true → hi.isSome = true)
    (hox : opd x = some ox) (hol : lo.mapM opd = some ol) (hoh : hi.mapM opd = some oh) (hom : mx.mapM opd = some om) (hx : veval (.sl ox ol oh om es) st = some z) :
    Gives false P w F env st (Instr.sliceAt t (a.eval x) (lo.map a.eval) (hi.map a.eval) (mx.map a.eval)) z := by
  simp only [veval] at hx
  cases h1 : st.ev ox with
  | none => simp [h1] at hx
  | some y =>
    cases h2 : st.int? ol with
    | none => simp [h1, h2] at hx
    | some l =>
      cases h3 : st.int? oh with
      | none => simp [h1, h2, h3] at hx
      | some hh =>
        cases h4 : st.int? om with
        | none => simp [h1, h2, h3, h4] at hx
        | some m =>
          simp only [h1, h2, h3, h4] at hx
          cases h5 : rdS es st y with
          | none => simp [h5] at hx
          | some ys =>
            simp only [h5, Option.map_eq_some_iff] at hx
            obtain ⟨b, hb, rfl⟩ := hx
            have hv := h.ev h1
            obtain ⟨ad, cap, hu1, hcap, _⟩ := h.rd hv h5
            obtain ⟨hr, hb1, hb2, hb3⟩ := run_bounds (P := P) true hb hcap (by simpa using hmh) (bound_arg h hol h2) (bound_arg h hoh h3) (bound_arg h hom h4)
            have hmc : (if (mx.map a.eval).isSome then b.2.2 else cap) ≤ cap := by split <;> omega
            have hhc : b.2.1 ≤ (if (mx.map a.eval).isSome then b.2.2 else cap) := by split <;> omega
            generalize hM : (if (mx.map a.eval).isSome then b.2.2 else cap) = M at hr hmc hhc
            rw [← opd_to hox, hu1]
            refine ⟨.slice (if M = b.1 then ad else ad.map (·.add (b.1 * es))) (b.2.1 - b.1) (M - b.1), ?_, ?_⟩
            · intro w' _
              simp only [Instr.sliceAt, Instr.slice, Sem.run_bind, run_underlying hu, Result.andThen_ok, hr, run_sizeOf hs, Sem.run_pure]
            · rw [hu1] at hv
              cases y <;> simp only [slOff]
              case v x0 =>
                have e0 := (SV_val hv).1
                simp only [rdS] at h5
                split at h5
                · rename_i hn
                  rw [isNilSl_eq hn] at e0 hv
                  simp only [Value.slice.injEq] at e0
                  obtain ⟨rfl, e1, rfl⟩ := e0
                  have : M = b.1 := by omega
                  rw [if_pos this, show b.2.1 - b.1 = 0 by omega, show M - b.1 = 0 by omega, isNilSl_eq hn]
                  exact SV_mk rfl
                · simp at h5
              case lst es' xs =>
                simp only [rdS] at h5
                split at h5
                · rename_i he
                  subst he
                  obtain rfl := Option.some.inj h5
                  have hv' : Rep w F (.lst es' xs) (.slice ad xs.length cap) E0 := hv
                  cases ad with
                  | none =>
                    generalize hq : Value.slice none xs.length cap = q at hv'
                    cases hv' with
                    | lstN hT =>
                      simp only [Value.slice.injEq] at hq
                      obtain ⟨rfl, _, rfl⟩ := hq
                      simp only [List.length_nil] at hb3
                      have : M = b.1 := by omega
                      rw [if_pos this, show b.2.1 - b.1 = 0 by omega, show M - b.1 = 0 by omega]
                      simp only [List.drop_nil, List.take_nil]
                      exact Rep.lstN hT
                    | lst u1 hes hcap hlen hc hf hr hT => simp at hq
                  | some A =>
                    by_cases hA : ∃ B o, A = ⟨B, o, none⟩
                    · obtain ⟨B, o, rfl⟩ := hA
                      have := slOff_lst (u := undef) (l := b.1) (m := b.2.1 - b.1) (M := M) hv' (by omega) (by omega) hmc
                      simp only [Option.map_some, add_plain']
                      exact this
                    · generalize hq : Value.slice (some A) xs.length cap = q at hv'
                      cases hv' with
                      | lstN hT =>
                        simp only [Value.slice.injEq] at hq
                        obtain ⟨_, _, rfl⟩ := hq
                        simp only [List.length_nil] at hb3
                        have : M = b.1 := by omega
                        rw [if_pos this, show b.2.1 - b.1 = 0 by omega, show M - b.1 = 0 by omega]
                        simp only [List.drop_nil, List.take_nil]
                        exact Rep.lstN hT
                      | lst u1 hes hcap hlen hc hf hr hT =>
                        simp only [Value.slice.injEq, Option.some.injEq] at hq
                        exact absurd ⟨_, _, hq.1⟩ hA
                · simp at h5
              case sl p es' off len =>
                simp only [rdS] at h5
                split at h5
                · rename_i he
                  subst he
                  obtain ⟨l', uc, xs, k1, k2, k3, k4, k5⟩ := hv
                  simp only [k2, takeOwn, true_and, k4, if_true, Option.some.injEq] at h5
                  have hyl : ys.length = len := by rw [← h5]; simp; omega
                  refine ⟨l', uc, xs, k1, k2, k3, by omega, ?_⟩
                  rcases k5 with ⟨k6, k7, k8, k9⟩ | ⟨B, o, m', cap2, ao, cap', k6, k7, k8, k9, k10⟩
                  · left
                    simp only [Value.slice.injEq] at k9
                    obtain ⟨rfl, _, rfl⟩ := k9
                    have : M = b.1 := by omega
                    refine ⟨k6, by omega, by omega, ?_⟩
                    rw [if_pos this, show b.2.1 - b.1 = 0 by omega, show M - b.1 = 0 by omega]
                  · right
                    simp only [Value.slice.injEq] at k7
                    obtain ⟨rfl, k7, rfl⟩ := k7
                    by_cases hM : M = b.1
                    · refine ⟨B, o, m', cap2, ao, M - b.1, k6, ?_, by omega, by omega, .inl (by omega)⟩
                      rw [if_pos hM]
                    · refine ⟨B, o, m', cap2, ao + b.1 * es', M - b.1, k6, ?_, by omega, by omega, .inr ?_⟩
                      · rw [if_neg hM, Option.map_some, add_plain']
                      · rw [k10.resolve_left (by omega), Nat.add_mul, Nat.add_assoc]
                · simp at h5
              all_goals first
                | (simp only [rdS] at h5; simp at h5; done)
                | skip
              exact Rep.junk (by split <;> rfl) fun _ _ h => h
        
theorem gives_lnl (h : Rel w F X env n a st) {ts : Array TypeId} {args : Array Operand} {t ty e : TypeId} {x : Operand} {ox : Opd} {es : Nat} {z : AV} (ht : ts[0]? = some t) (hxa : args[0]? = some x) (hu : P.underlying t = some (.slice e)) (hox : opd x = some ox)
    (hx : veval (.lnl ox es) st = some z) : Gives false P w F env st (Builtin.len_ ts ty (args.map a.eval)) z := by
  simp only [veval] at hx
  cases h1 : st.ev ox with
  | none => simp [h1] at hx
  | some y =>
    simp only [h1, Option.map_eq_some_iff] at hx
    obtain ⟨ys, h5, rfl⟩ := hx
    obtain ⟨ad, cap, he, _⟩ := h.rd (h.ev h1) h5
    refine ⟨.int .i64 ys.length, fun w' _ => ?_, SV_mk rfl⟩
    have e : (args.map a.eval)[0]? = some (.slice ad ys.length cap) := by rw [Array.getElem?_map, hxa, Option.map_some, ← opd_to hox, he]
    simp only [Builtin.len_, ht, e, Sem.run_bind, run_underlying hu, Result.andThen_ok, Sem.run_pure]
    rfl
theorem gives_lns (h : Rel w F X env n a st) {ts : Array TypeId} {args : Array Operand} {t ty : TypeId} {x : Operand} {ox : Opd} {z : AV} (ht : ts[0]? = some t) (hxa : args[0]? = some x) (hu : P.underlying t = some .string) (hox : opd x = some ox)
    (hx : veval (.lns ox) st = some z) : Gives false P w F env st (Builtin.len_ ts ty (args.map a.eval)) z := by
  simp only [veval, Option.map_eq_some_iff] at hx
  obtain ⟨s, hs, rfl⟩ := hx
  refine ⟨.int .i64 s.size, fun w' _ => ?_, SV_mk rfl⟩
  have e : (args.map a.eval)[0]? = some (.string s) := by rw [Array.getElem?_map, hxa, Option.map_some, ← opd_to hox, h.str hs]
  simp only [Builtin.len_, ht, e, Sem.run_bind, run_underlying hu, Result.andThen_ok, Sem.run_pure]
  rfl
theorem gives_cstlen (h : Rel w F X env n a st) {ts : Array TypeId} {args : Array Operand} {t ty e : TypeId} {x : Operand} {N : Nat} {z : AV} (ht : ts[0]? = some t) (hxa : args[0]? = some x) (hu : P.underlying t = some (.array N e))
    (hx : veval (.cst (.int .i64 N)) st = some z) : Gives false P w F env st (Builtin.len_ ts ty (args.map a.eval)) z := by
  simp only [veval, Value.oneCell', if_true, Option.some.injEq] at hx
  subst hx
  refine ⟨.int .i64 N, fun w' _ => ?_, SV_mk rfl⟩
  have e : (args.map a.eval)[0]? = some (a.eval x) := by rw [Array.getElem?_map, hxa]; rfl
  simp only [Builtin.len_, ht, e, Sem.run_bind, run_underlying hu, Result.andThen_ok, Sem.run_pure]
  rfl
theorem ptrNil_sound (h : Rel w F X env n a st) {x : Opd} {y : AV} {b : Bool} (hx : st.ev x = some y) (hn : ptrNil y = some b) : ∃ q, a.eval x.to = .pointer q ∧ q.isNone = b := by
  have hv := h.ev hx
  cases y <;> simp only [ptrNil] at hn
  case v u =>
    split at hn
    · rename_i hu
      obtain rfl := Option.some.inj hn
      rw [(SV_val hv).1]
      unfold isNilP at hu
      split at hu
      · exact ⟨none, rfl, rfl⟩
      · simp at hu
    · simp at hn
  case ref p =>
    obtain rfl := Option.some.inj hn
    obtain ⟨B, o, _, e⟩ := hv
    exact ⟨_, e, rfl⟩
  case fptr y j =>
    obtain rfl := Option.some.inj hn
    have hv' : Rep w F (.fptr y j) (a.eval x.to) E0 := hv
    generalize a.eval x.to = pv at hv'
    cases hv' with
    | fptr u1 hc hf hr hT => exact ⟨_, rfl, rfl⟩
  all_goals simp at hn
theorem slNil_sound (h : Rel w F X env n a st) {x : Opd} {y : AV} {b : Bool} (hx : st.ev x = some y) (hn : slNil y = some b) : ∃ q l c, a.eval x.to = .slice q l c ∧ q.isNone = b := by
  have hv := h.ev hx
  unfold slNil at hn
  split at hn
  · split at hn
    · rename_i hu
      obtain rfl := Option.some.inj hn
      rw [(SV_val hv).1, isNilSl_eq hu]
      exact ⟨none, 0, 0, rfl, rfl⟩
    · simp at hn
  · obtain rfl := Option.some.inj hn
    rename_i es c cs
    have hv' : Rep w F (.lst es (c :: cs)) (a.eval x.to) E0 := hv
    generalize a.eval x.to = pv at hv'
    cases hv' with
    | lst u1 hes hcap hlen hc hf hr hT => exact ⟨_, _, _, rfl, rfl⟩
  · obtain rfl := Option.some.inj hn
    obtain ⟨l, uc, xs, _, _, _, _, k⟩ := hv
    rcases k with ⟨_, _, k, _⟩ | ⟨B, o, m', cap2, ao, cap', k6, k7, _⟩
    · omega
    · exact ⟨_, _, _, k7, rfl⟩
  · obtain rfl := Option.some.inj hn
    obtain ⟨B, o, ao, _, k, _⟩ := hv
    exact ⟨_, _, _, k, rfl⟩
  · simp at hn
theorem eqNil_spec {ng : Bool} {a b : Option Bool} {z : AV} (h : eqNil ng a b = some z) : ∃ x y, a = some x ∧ b = some y ∧ (x = true ∨ y = true) ∧ z = .v (.bool ((x == y) != ng)) := by
  unfold eqNil at h
  split at h
  · simp only [Option.some.injEq] at h
    subst h
    exact ⟨true, _, rfl, rfl, Or.inl rfl, by simp⟩
  · simp only [Option.some.injEq] at h
    subst h
    exact ⟨false, true, rfl, rfl, Or.inr rfl, by simp⟩
  · simp at h
theorem run_equal_ptr {W : World} {t e : TypeId} (hu : P.underlying t = some (.pointer e)) {p q : Option Addr} (h : p.isNone = true ∨ q.isNone = true) : (Op.equal t (.pointer p) (.pointer q)).run P W = .ok (p.isNone == q.isNone) W := by
  unfold Op.equal
  generalize hd : Op.maxDepth = d
  cases d with
  | zero => exact absurd hd (by decide)
  | succ d => cases p <;> cases q <;> simp at h <;> simp [Op.equalIn, run_underlying hu]
theorem run_equal_same {W : World} {t e : TypeId} (hu : P.underlying t = some (.pointer e)) {k : Nat} (hs : sizeT P e = some k) (p : Option Addr) : (Op.equal t (.pointer p) (.pointer p)).run P W = .ok true W := by
  unfold Op.equal
  generalize hd : Op.maxDepth = d
  cases d with
  | zero => exact absurd hd (by decide)
  | succ d =>
    cases p with
    | none => simp [Op.equalIn, run_underlying hu]
    | some ad =>
      have h1 : (sameAddr ad ad).run P W = .ok true W := by simp [sameAddr]
      simp only [Op.equalIn, Sem.run_bind, run_underlying hu, Result.andThen_ok, run_sizeOf hs]
      split
      · exact h1
      · simp
theorem run_equal_sl {W : World} {t e : TypeId} (hu : P.underlying t = some (.slice e)) {p q : Option Addr} {l c l' c' : Nat} (h : p.isNone = true ∨ q.isNone = true) : (Op.equal t (.slice p l c) (.slice q l' c')).run P W = .ok (p.isNone == q.isNone) W := by
  unfold Op.equal
  generalize hd : Op.maxDepth = d
  cases d with
  | zero => exact absurd hd (by decide)
  | succ d => cases p <;> cases q <;> simp at h <;> simp [Op.equalIn, run_underlying hu]
theorem run_equal_bool {W : World} {t : TypeId} (hu : P.underlying t = some .bool) {p q : Bool} : (Op.equal t (.bool p) (.bool q)).run P W = .ok (p == q) W := by
  unfold Op.equal
  generalize hd : Op.maxDepth = d
  cases d with
  | zero => exact absurd hd (by decide)
  | succ d => cases p <;> simp [Op.equalIn, run_underlying hu]
theorem gives_eqp (h : Rel w F X env n a st) {ng sz : Bool} {t e : TypeId} {x y : Operand} {ox oy : Opd} {z : AV} (hu : P.underlying t = some (.pointer e)) (hox : opd x = some ox) (hoy : opd y = some oy) (hsz : sz = true → ∃ k, sizeT P e = some k) (hx : veval (.eqp ng sz ox oy) st = some z) :
    Gives false P w F env st (do eqGuard (if ng then .neq else .eql) t x y (a.eval x) (a.eval y); binOp (if ng then .neq else .eql) t (a.eval x) (a.eval y)) z := by
  simp only [veval] at hx
  split at hx
  · rename_i u v h1 h2
    split at hx
    · rename_i hsame
      obtain ⟨hsz1, hsame⟩ := hsame
      obtain ⟨k, hk⟩ := hsz hsz1
      obtain rfl := Option.some.inj hx
      obtain ⟨p, q, rfl, rfl, hpq⟩ : ∃ p q, u = .ref p ∧ v = .ref q ∧ p = q := by
        cases u <;> cases v <;> simp only [sameRef, Bool.false_eq_true, Bool.and_eq_true, decide_eq_true_eq] at hsame
        rename_i p q
        obtain ⟨r1, r2, r3⟩ := hsame
        exact ⟨p, q, rfl, rfl, by cases p; cases q; simp_all⟩
      subst hpq
      obtain ⟨B, o, l1, e1⟩ := h.ev h1
      obtain ⟨B', o', l2, e2⟩ := h.ev h2
      rw [l1] at l2
      simp only [Option.some.injEq, RLoc.mem.injEq] at l2
      obtain ⟨rfl, rfl⟩ := l2
      rw [opd_to hox] at e1
      rw [opd_to hoy] at e2
      refine ⟨_, fun w' _ => ?_, SV_mk rfl⟩
      rw [e1, e2]
      cases ng <;> simp [eqGuard, binOp, run_equal_same hu hk]
    obtain ⟨b1, b2, k1, k2, k3, rfl⟩ := eqNil_spec hx
    obtain ⟨p, e1, f1⟩ := ptrNil_sound h h1 k1
    obtain ⟨q, e2, f2⟩ := ptrNil_sound h h2 k2
    rw [opd_to hox] at e1
    rw [opd_to hoy] at e2
    subst f1 f2
    refine ⟨_, fun w' _ => ?_, SV_mk rfl⟩
    rw [e1, e2]
    cases ng <;> simp [eqGuard, binOp, run_equal_ptr hu k3]
  · simp at hx
theorem gives_eqs (h : Rel w F X env n a st) {ng : Bool} {t e : TypeId} {x y : Operand} {ox oy : Opd} {z : AV} (hu : P.underlying t = some (.slice e)) (hox : opd x = some ox) (hoy : opd y = some oy) (hx : veval (.eqs ng ox oy) st = some z) :
    Gives false P w F env st (do eqGuard (if ng then .neq else .eql) t x y (a.eval x) (a.eval y); binOp (if ng then .neq else .eql) t (a.eval x) (a.eval y)) z := by
  simp only [veval] at hx
  split at hx
  · rename_i u v h1 h2
    obtain ⟨b1, b2, k1, k2, k3, rfl⟩ := eqNil_spec hx
    obtain ⟨p, l1, c1, e1, f1⟩ := slNil_sound h h1 k1
    obtain ⟨q, l2, c2, e2, f2⟩ := slNil_sound h h2 k2
    rw [opd_to hox] at e1
    rw [opd_to hoy] at e2
    subst f1 f2
    refine ⟨_, fun w' _ => ?_, SV_mk rfl⟩
    rw [e1, e2]
    cases ng <;> simp [eqGuard, binOp, run_equal_sl hu k3]
  · simp at hx
theorem gives_eqb (h : Rel w F X env n a st) {ng : Bool} {t : TypeId} {x y : Operand} {ox oy : Opd} {z : AV} (hu : P.underlying t = some .bool) (hox : opd x = some ox) (hoy : opd y = some oy) (hx : veval (.eqb ng ox oy) st = some z) :
    Gives false P w F env st (do eqGuard (if ng then .neq else .eql) t x y (a.eval x) (a.eval y); binOp (if ng then .neq else .eql) t (a.eval x) (a.eval y)) z := by
  simp only [veval] at hx
  split at hx
  · rename_i u v h1 h2
    simp only [Option.some.injEq] at hx
    subst hx
    obtain ⟨e1, _⟩ := ev_val h hox h1
    obtain ⟨e2, _⟩ := ev_val h hoy h2
    refine ⟨_, fun w' _ => ?_, SV_mk rfl⟩
    rw [e1, e2]
    cases ng <;> simp [eqGuard, binOp, run_equal_bool hu]
  · simp at hx
theorem fitL_vals : ∀ (ks : List Nat) (as : List AV), fitL ks as = true → ∃ us : List Value, as = us.map .v
  | [], [], _ => ⟨[], rfl⟩
  | [], a :: as, h => by simp [fitL] at h
  | k :: ks, [], h => by simp [fitL] at h
  | k :: ks, a :: as, h => by
    simp only [fitL, Bool.and_eq_true] at h
    obtain ⟨us, rfl⟩ := fitL_vals ks as h.2
    have h1 := h.1
    match k, a, h1 with
    | 0, .v (.bool b), _ => exact ⟨.bool b :: us, rfl⟩
    | 1, .v (.int q b), _ => exact ⟨.int q b :: us, rfl⟩
    | 2, .v (.string b), _ => exact ⟨.string b :: us, rfl⟩
theorem eqL_vals : ∀ (as : List Value) (bs : List AV) (r : Bool), eqL (as.map .v) bs = some r → ∃ us : List Value, bs = us.map .v
  | [], [], r, h => ⟨[], rfl⟩
  | [], b :: bs, r, h => by simp [eqL] at h
  | a :: as, [], r, h => by simp [eqL] at h
  | a :: as, b :: bs, r, h => by
    simp only [List.map_cons, eqL] at h
    split at h
    · rename_i x y h1 h2
      obtain ⟨us, rfl⟩ := eqL_vals as bs y h2
      cases b <;> simp only [eq1] at h1 <;> first | (cases a <;> simp at h1; done) | skip
      rename_i b
      exact ⟨b :: us, rfl⟩
    · simp at h
theorem agg_vals (h : Rel w F X env n a st) {x : Operand} {ox : Opd} (hox : opd x = some ox) {us : List Value} (hx : st.ev ox = some (.agg (us.map .v))) : a.eval x = .agg us.toArray := by
  have h1 := h.ev hx
  rw [opd_to hox] at h1
  obtain ⟨vs, h2, h3, h4⟩ := h1
  rw [h2]
  congr 1
  apply Array.ext_getElem?
  intro i
  by_cases hi : i < us.length
  · have e1 : (us.map AV.v)[i]? = some (.v us[i]) := by simp [hi]
    have hlt : i < vs.size := by rw [h3]; simpa using hi
    have e2 : vs[i]? = some vs[i] := Array.getElem?_eq_getElem hlt
    have h5 := h4 i _ _ e1 e2
    rw [e2]
    simp only [List.getElem?_toArray, List.getElem?_eq_getElem hi, Option.some.injEq]
    generalize hz : us[i] = z at h5
    generalize vs[i] = u at h5
    cases h5
    rfl
  · rw [Array.getElem?_eq_none (by rw [h3]; simp; omega), Array.getElem?_eq_none (by simp; omega)]
theorem gives_eqa (h : Rel w F X env n a st) {ng : Bool} {ks : List Nat} {t : TypeId} {x y : Operand} {ox oy : Opd} {z : AV} (hw : isWide P t = true) (hg : P.eqGuardType P.depth t = false) (hk : eqN P 8 t = some ks) (hox : opd x = some ox) (hoy : opd y = some oy) (hx : veval (.eqa ng ks ox oy) st = some z) :
    Gives false P w F env st (do eqGuard (if ng then .neq else .eql) t x y (a.eval x) (a.eval y); binOp (if ng then .neq else .eql) t (a.eval x) (a.eval y)) z := by
  simp only [veval] at hx
  split at hx
  · rename_i as bs h1 h2
    split at hx
    · rename_i hf
      simp only [Option.map_eq_some_iff] at hx
      obtain ⟨r, hr, rfl⟩ := hx
      obtain ⟨us, rfl⟩ := fitL_vals _ _ hf
      obtain ⟨vs, rfl⟩ := eqL_vals _ _ _ hr
      rw [agg_vals h hox h1, agg_vals h hoy h2]
      refine ⟨.bool (r != ng), fun w' _ => ?_, SV_mk rfl⟩
      have he := run_equalIn_flat (P := P) 9992 8 t ks hk w' us vs r hf hr
      simp only [mkF, hw, if_true] at he
      have he2 : (Op.equal t (.agg us.toArray) (.agg vs.toArray)).run P w' = .ok r w' := he
      have hgr : ∀ op, (eqGuard op t x y (.agg us.toArray) (.agg vs.toArray)).run P w' = .ok () w' := by
        intro op
        unfold eqGuard
        cases op <;> simp [hg]
      cases ng <;> simp [hgr, binOp, he2]
    · simp at hx
  · simp at hx
theorem gives_eqW (h : Rel w F X env n a st) {ng : Bool} {t : TypeId} {x y : Operand} {ox oy : Opd} {z : AV}
    (hbin : ∀ z, veval (.bin (if ng then .neq else .eql) ox oy) st = some z → Gives false P w F env st (do eqGuard (if ng then .neq else .eql) t x y (a.eval x) (a.eval y); binOp (if ng then .neq else .eql) t (a.eval x) (a.eval y)) z)
    (hox : opd x = some ox) (hoy : opd y = some oy) (hx : veval (eqW P ng (if ng then .neq else .eql) t ox oy) st = some z) :
    Gives false P w F env st (do eqGuard (if ng then .neq else .eql) t x y (a.eval x) (a.eval y); binOp (if ng then .neq else .eql) t (a.eval x) (a.eval y)) z := by
  unfold eqW at hx
  split at hx
  · rename_i hh
    split at hx
    · rename_i ks hk
      exact gives_eqa h hh.2 hh.1 hk hox hoy hx
    · exact hbin z hx
  · exact hbin z hx
theorem gives_mn (h : Rel w F X env n a st) {ts : Array TypeId} {ty : TypeId} {args : Array Operand} {x y : Operand} {ox oy : Opd} {z : AV} (ha : args.toList = [x, y]) (hox : opd x = some ox) (hoy : opd y = some oy) (hx : veval (.mn ox oy) st = some z) :
    Gives false P w F env st (Builtin.min_ ts ty (args.map a.eval)) z := by
  simp only [veval] at hx
  split at hx
  · rename_i k i k' j h1 h2
    simp only [Option.some.injEq] at hx
    subst hx
    obtain ⟨e1, _⟩ := ev_val h hox h1
    obtain ⟨e2, _⟩ := ev_val h hoy h2
    refine ⟨_, fun w' _ => ?_, SV_mk rfl⟩
    simp [Builtin.min_, ha, e1, e2, Builtin.min2]
  · simp at hx
theorem gives_mx (h : Rel w F X env n a st) {ts : Array TypeId} {ty : TypeId} {args : Array Operand} {x y : Operand} {ox oy : Opd} {z : AV} (ha : args.toList = [x, y]) (hox : opd x = some ox) (hoy : opd y = some oy) (hx : veval (.mx ox oy) st = some z) :
    Gives false P w F env st (Builtin.max_ ts ty (args.map a.eval)) z := by
  simp only [veval] at hx
  split at hx
  · rename_i k i k' j h1 h2
    simp only [Option.some.injEq] at hx
    subst hx
    obtain ⟨e1, _⟩ := ev_val h hox h1
    obtain ⟨e2, _⟩ := ev_val h hoy h2
    refine ⟨_, fun w' _ => ?_, SV_mk rfl⟩
    simp [Builtin.max_, ha, e1, e2, Builtin.max2]
  · simp at hx
theorem foldSet (off : Nat) : ∀ (l : List Value) (j0 : Nat) (cells : Array Value), off + j0 + l.length ≤ cells.size →
    ((l.zipIdx j0).foldl (fun cs (p : Value × Nat) => cs.setIfInBounds (off + p.2) p.1) cells).toList = splice cells.toList (off + j0) l
  | [], j0, cells, _ => by simp [splice]
  | v :: l, j0, cells, h => by
    simp only [List.length_cons] at h
    simp only [List.zipIdx_cons, List.foldl_cons]
    rw [foldSet off l (j0 + 1) _ (by simp; omega)]
    simp only [splice, Array.toList_setIfInBounds, List.length_cons]
    apply List.ext_getElem?
    intro i
    simp only [List.getElem?_append, List.length_take, List.length_set, Array.length_toList, List.getElem?_take, List.getElem?_drop, List.getElem?_set, List.getElem?_cons]
    repeat' split
    all_goals (first | rfl | omega | (congr 1; omega) | skip)
    all_goals simp_all
    all_goals (first | rfl | omega | (congr 1; omega) | skip)
theorem mapM_opd : ∀ (l : List Operand) (os : List Opd), l.mapM opd = some os → os.map Opd.to = l
  | [], os, h => by simp at h; subst h; rfl
  | x :: l, os, h => by
    simp only [List.mapM_cons, Option.pure_def, Option.bind_eq_bind, Option.bind_eq_some_iff, Option.some.injEq] at h
    obtain ⟨o, ho, r, hr, rfl⟩ := h
    simp [opd_to ho, mapM_opd l r hr]
end
end Go.Proofs.YthlehngbadianaaDoor.Ow
