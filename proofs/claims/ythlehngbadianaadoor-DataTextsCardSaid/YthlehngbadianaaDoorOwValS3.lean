/- The value operations, all together. -/
import Derived.Test.YthlehngbadianaaDoorOwValS2
import Derived.Laws.BytesString
set_option linter.unusedVariables false
set_option linter.unusedSimpArgs false
set_option linter.unnecessarySimpa false
namespace Go.Proofs.YthlehngbadianaaDoor.Ow
open Go Go.RowKit
def isU8D : Option TypeDesc → Bool
  | some (.int .u8) => true
  | _ => false
theorem isU8D_eq {o : Option TypeDesc} (h : isU8D o = true) : o = some (.int .u8) := by
  unfold isU8D at h
  split at h
  · rfl
  · simp at h
def compV (P : Program) (o : Op) : Option VE :=
  match o with
  | .move x => (opd x).map .mv
  | .assign x => (opd x).map .mv
  | .pick c a b => do some (.pick (← opd c) (← opd a) (← opd b))
  | .binOp op t x y _ => do some ((eqK P op t) (← opd x) (← opd y))
  | .unOp op _ x => (opd x).map (.un op)
  | .convert src dst x =>
    match P.underlying src, P.underlying dst with
    | some (.int _), some (.int k) => (opd x).map (.cvi k)
    | some (.slice e), some .string => if isU8D (P.underlying e) = true then (opd x).map .b2s else none
    | _, _ => none
  | .fieldAddr s x f =>
    match P.underlying s with
    | some (.struct fields) => do
      let fl ← fields[f]?
      let n ← sizeT P fl.type
      if n = 0 then none else some (.fa (← opd x) fl.offset)
    | _ => none
  | .indexAddr t x i =>
    match P.underlying t with
    | some (.slice e) => do some (.ia (← opd x) (← opd i) (← sizeT P e))
    | some (.array n e) => do some (.iaa (← opd x) (← opd i) n (← sizeT P e))
    | _ => none
  | .index t x i =>
    match P.underlying t with
    | some .string => do some (.is (← opd x) (← opd i))
    | some (.array n e) => do some (.ix (← opd x) (← opd i) n (← sizeT P e) (← loadT P e))
    | _ => none
  | .load t x => do some (.ld (← opd x) (← loadT P t))
  | .slice t x lo hi mx =>
    match P.underlying t with
    | some .string => if mx.isSome then none else do some (.ss (← opd x) (← lo.mapM opd) (← hi.mapM opd))
    | some (.slice e) => if mx.isSome && hi.isNone then none else do some (.sl (← opd x) (← lo.mapM opd) (← hi.mapM opd) (← mx.mapM opd) (← sizeT P e))
    | some (.array n e) => if mx.isSome && hi.isNone then none else do some (.sla (← opd x) (← lo.mapM opd) (← hi.mapM opd) (← mx.mapM opd) n (← sizeT P e))
    | _ => none
  | .call { callee := .builtin .len, args, argTypes } =>
    match argTypes[0]?, args[0]? with
    | some t, some x =>
      match P.underlying t with
      | some .string => (opd x).map .lns
      | some (.slice e) => do some (.lnl (← opd x) (← sizeT P e))
      | some (.array n _) => some (.cst (.int .i64 n))
      | _ => none
    | _, _ => none
  | .call { callee := .builtin .min, args, argTypes } =>
    match args.toList with
    | [x, y] => do some (.mn (← opd x) (← opd y))
    | _ => none
  | .call { callee := .builtin .max, args, argTypes } =>
    match args.toList with
    | [x, y] => do some (.mx (← opd x) (← opd y))
    | _ => none
  | .build t parts =>
    match partPl P t with
    | some (z, pl) => if z.all Value.oneCell' = true then (compParts pl parts.toList).map (.bld z) else none
    | none => none
  | .extract t i => (opd t).map (.ext · i)
  | .field t x f =>
    match P.underlying t with
    | some (.struct fields) => do
      let fl ← fields[f]?
      some (.fv (← opd x) fl.offset (← loadT P fl.type))
    | _ => none
  | .nilCheck x => (opd x).map .nc
  | .makeFunc (.func f) first captured => if first.isEmpty then (captured.toList.mapM opd).map (.fnv f) else none
  | _ => none
section
variable {P : Program} {w : World} {F X : Fp} {env : Nat → RLoc} {n : Nat} {a : Act} {st : St} {rt : Al}
theorem SV.of1 {x : AV} {u : Value} (h : SV1 w F env rt x u) : SV w F env rt x u := by cases x <;> first | exact h | exact h.elim
theorem gives_sla (h : Rel w F X env n a st) {t e : TypeId} {x : Operand} {lo hi mx : Option Operand} {ox : Opd} {ol oh om : Option Opd} {N es : Nat} {z : AV} (hu : P.underlying t = some (.array N e)) (hs : sizeT P e = some es) (hmh : mx.isSome = true → hi.isSome = true)
    (hox : opd x = some ox) (hol : lo.mapM opd = some ol) (hoh : hi.mapM opd = some oh) (hom : mx.mapM opd = some om) (hx : veval (.sla ox ol oh om N es) st = some z) :
    Gives false P w F env st (Instr.sliceAt t (a.eval x) (lo.map a.eval) (hi.map a.eval) (mx.map a.eval)) z := by
  simp only [veval] at hx
  cases h1 : st.ev ox with
  | none => simp [h1] at hx
  | some y =>
    cases h2 : st.int? ol with
    | none => simp [h1, h2] at hx
    | some l =>
      cases h3 : st.int? oh with
      | none => simp [h1, h2, h3] at hx
      | some hh =>
        cases h4 : st.int? om with
        | none => simp [h1, h2, h3, h4] at hx
        | some m =>
          simp only [h1, h2, h3, h4] at hx
          cases h5 : arrLen st y with
          | none => simp [h5] at hx
          | some k =>
            simp only [h5] at hx
            split at hx
            · rename_i hle
              rw [Option.bind_eq_some_iff] at hx
              obtain ⟨b, hb, hz⟩ := hx
              cases y <;> simp only [arrSl] at hz
              case ref p =>
                split at hz
                · simp at hz
                rename_i hes0
                obtain rfl := Option.some.inj hz
                obtain ⟨B, o, k1, hu1⟩ := h.ev h1
                obtain ⟨hr, hb1, hb2, hb3⟩ := run_bounds (P := P) false hb (Nat.le_refl _) (by simpa using hmh) (bound_arg h hol h2) (bound_arg h hoh h3) (bound_arg h hom h4)
                rw [← opd_to hox, hu1]
                have hMeq : (if (mx.map a.eval).isSome then b.2.2 else N) = b.2.2 := by
                  split
                  · rfl
                  · rename_i hmx
                    rcases bound_arg h hom h4 with ⟨e1, e2⟩ | ⟨k', m', e1, e2⟩
                    · subst e2
                      simp only [okBounds] at hb
                      split at hb
                      · obtain rfl := Option.some.inj hb; simp
                      · simp at hb
                    · rw [e1] at hmx; simp at hmx
                rw [hMeq] at hr
                refine ⟨.slice (some (if b.2.2 = b.1 then ⟨B, o + p.j, none⟩ else (⟨B, o + p.j, none⟩ : Addr).add (b.1 * es))) (b.2.1 - b.1) (b.2.2 - b.1), ?_, ?_⟩
                · intro w' _
                  simp only [Instr.sliceAt, Instr.sureAddr, Sem.run_bind, run_underlying hu, Result.andThen_ok, hr, run_sizeOf hs, Sem.run_pure]
                · by_cases hMb : b.2.2 = b.1
                  · refine ⟨B, o, o + p.j, k1, ?_⟩
                    unfold SaOk
                    rw [if_neg hes0]
                    exact ⟨by rw [if_pos hMb], by omega, .inl (by omega)⟩
                  · refine ⟨B, o, o + p.j + b.1 * es, k1, ?_⟩
                    unfold SaOk
                    rw [if_neg hes0]
                    exact ⟨by rw [if_neg hMb, add_plain'], by omega, .inr (by simp [Nat.add_assoc])⟩
              all_goals simp at hz
            · simp at hx
theorem gives_ext (h : Rel w F X env n a st) {t : Operand} {ot : Opd} {i : Nat} {z : AV} (hot : opd t = some ot) (hx : veval (.ext ot i) st = some z) : Gives false P w F env st (Instr.extract (a.eval t) i) z := by
  simp only [veval] at hx
  split at hx
  · rename_i xs h1
    obtain ⟨us, hu, hl, hr⟩ := h.ev h1
    rw [← opd_to hot, hu]
    have hi := (List.getElem?_eq_some_iff.1 hx).1
    have hv : us[i]? = some us[i] := Array.getElem?_eq_getElem (by omega)
    refine ⟨us[i], fun w' _ => ?_, SV.of1 (hr i z _ hx hv)⟩
    simp only [Instr.extract, hv, Sem.run_pure]
  · simp at hx
theorem gives_part {e : TypeId} {cs : List AV} {us : Array Value} {off : Nat} {m : Option Nat} {z : AV} (hlen : us.size = cs.length) (hr : ∀ (i : Nat) c v, cs[i]? = some c → us[i]? = some v → LR w F env st.rt c v) (hm : loadT P e = some m) (hx : partV cs off m = some z) :
    Gives false P w F env st (part e us off) z := by
  simp only [loadT] at hm
  cases hd : P.underlying e with
  | none => simp [hd] at hm
  | some d =>
    simp only [hd] at hm
    cases m with
    | none =>
      simp only [partV] at hx
      have hag : isAggD d = false := by
        cases hag : isAggD d with
        | false => rfl
        | true => rw [hag] at hm; simp only [if_true, Option.bind_eq_some_iff] at hm; obtain ⟨q, _, hq⟩ := hm; split at hq <;> simp at hq
      have hi := (List.getElem?_eq_some_iff.1 hx).1
      have hv : us[off]? = some us[off] := Array.getElem?_eq_getElem (by omega)
      have hlr := hr _ z _ hx hv
      refine ⟨_, fun w' _ => ?_, (SV_one hlr.avone).2 hlr⟩
      simp only [part, Sem.run_bind, Result.andThen_ok, Sem.run_pure, run_isAgg hd, hag, Bool.false_eq_true, if_false, hv]
    | some s =>
      simp only [partV] at hx
      split at hx
      · rename_i hle
        simp only [Option.some.injEq] at hx
        subst hx
        have hag : isAggD d = true := by
          cases hag : isAggD d with
          | true => rfl
          | false => rw [hag] at hm; simp at hm
        rw [hag] at hm
        simp only [if_true, Option.bind_eq_some_iff] at hm
        obtain ⟨s', hs', hs2⟩ := hm
        have hs0 : s' ≠ 0 := by intro e; simp [e] at hs2
        simp only [hs0, if_false, Option.some.injEq] at hs2
        subst hs2
        refine ⟨.agg (us.extract off (off + s')), fun w' _ => ?_, ⟨_, rfl, ?_, ?_⟩⟩
        · simp only [part, Sem.run_bind, Result.andThen_ok, Sem.run_pure, run_isAgg hd, hag, if_true, run_sizeOf hs']
        · simp only [Array.size_extract, List.length_take, List.length_drop]; omega
        · intro i c v hc hv
          rw [List.getElem?_take] at hc
          split at hc
          · rename_i hi
            rw [List.getElem?_drop] at hc
            rw [Array.getElem?_extract] at hv
            split at hv
            · exact hr _ c v hc hv
            · simp at hv
          · simp at hc
      · simp at hx
theorem gives_ix (h : Rel w F X env n a st) {t e : TypeId} {x i : Operand} {ox oi : Opd} {N es : Nat} {m : Option Nat} {z : AV} (hu : P.underlying t = some (.array N e)) (hs : sizeT P e = some es) (hm : loadT P e = some m)
    (hox : opd x = some ox) (hoi : opd i = some oi) (hx : veval (.ix ox oi N es m) st = some z) : Gives false P w F env st (Instr.index t (a.eval x) (a.eval i)) z := by
  simp only [veval] at hx
  split at hx
  · rename_i cs k h1 h2
    split at hx
    · rename_i hb
      obtain ⟨us, hue, hlen, hr⟩ := h.ev h1
      obtain ⟨ik, hik⟩ := h.int h2
      obtain ⟨v, hv1, hv2⟩ := gives_part (st := st) (w := w) (F := F) (env := env) hlen hr hm hx
      refine ⟨v, fun w' hw' => ?_, hv2⟩
      rw [← opd_to hox, ← opd_to hoi, hue, hik]
      simp only [Instr.index, asIntOf, Sem.run_bind, Sem.run_pure, Result.andThen_ok, run_underlying hu, hb, and_self, if_true, run_sizeOf hs]
      exact hv1 w' hw'
    · simp at hx
  · simp at hx
theorem gives_fv (h : Rel w F X env n a st) {t : TypeId} {fields : Array Field} {fl : Field} {f : Nat} {x : Operand} {ox : Opd} {m : Option Nat} {z : AV} (hu : P.underlying t = some (.struct fields)) (hf : fields[f]? = some fl) (hm : loadT P fl.type = some m)
    (hox : opd x = some ox) (hx : veval (.fv ox fl.offset m) st = some z) : Gives false P w F env st (Instr.field t (a.eval x) f) z := by
  simp only [veval] at hx
  split at hx
  · rename_i cs h1
    obtain ⟨us, hue, hlen, hr⟩ := h.ev h1
    rw [← opd_to hox, hue]
    simp only [loadT] at hm
    cases hd : P.underlying fl.type with
    | none => simp [hd] at hm
    | some d =>
      simp only [hd] at hm
      split at hx
      · have hag : isAggD d = false := by
          cases hag : isAggD d with
          | false => rfl
          | true => rw [hag] at hm; simp only [if_true, Option.bind_eq_some_iff] at hm; obtain ⟨q, _, hq⟩ := hm; split at hq <;> simp at hq
        have hi := (List.getElem?_eq_some_iff.1 hx).1
        have hv : us[fl.offset]? = some us[fl.offset] := Array.getElem?_eq_getElem (by omega)
        have hlr := hr _ z _ hx hv
        refine ⟨_, fun w' _ => ?_, (SV_one hlr.avone).2 hlr⟩
        simp only [Instr.field, asAgg, part, Sem.run_bind, run_underlying hu, hf, Result.andThen_ok, Sem.run_pure, run_isAgg hd, hag, Bool.false_eq_true, if_false, hv]
      · rename_i s
        split at hx
        · rename_i hle
          simp only [Option.some.injEq] at hx
          subst hx
          have hag : isAggD d = true := by
            cases hag : isAggD d with
            | true => rfl
            | false => rw [hag] at hm; simp at hm
          rw [hag] at hm
          simp only [if_true, Option.bind_eq_some_iff] at hm
          obtain ⟨s', hs', hs2⟩ := hm
          have hs0 : s' ≠ 0 := by intro e; simp [e] at hs2
          simp only [hs0, if_false, Option.some.injEq] at hs2
          subst hs2
          refine ⟨.agg (us.extract fl.offset (fl.offset + s')), fun w' _ => ?_, ⟨_, rfl, ?_, ?_⟩⟩
          · simp only [Instr.field, asAgg, part, Sem.run_bind, run_underlying hu, hf, Result.andThen_ok, Sem.run_pure, run_isAgg hd, hag, if_true, run_sizeOf hs']
          · simp only [Array.size_extract, List.length_take, List.length_drop]; omega
          · intro i c v hc hv
            rw [List.getElem?_take] at hc
            split at hc
            · rename_i hi
              rw [List.getElem?_drop] at hc
              rw [Array.getElem?_extract] at hv
              split at hv
              · exact hr _ c v hc hv
              · simp at hv
            · simp at hc
        · simp at hx
  · simp at hx
theorem gives_nc (h : Rel w F X env n a st) {x : Operand} {ox : Opd} {z : AV} (hox : opd x = some ox) (hx : veval (.nc ox) st = some z) : ∃ p, a.eval x = .pointer (some p) ∧ SV w F env st.rt z (.pointer (some p)) := by
  simp only [veval] at hx
  cases h1 : st.ev ox with
  | none => simp [h1] at hx
  | some y =>
    simp only [h1] at hx
    split at hx
    · rename_i hn
      obtain rfl := Option.some.inj hx
      obtain ⟨q, e, hq⟩ := ptrNil_sound h h1 hn
      cases q with
      | none => simp at hq
      | some p =>
        refine ⟨p, by rw [← opd_to hox]; exact e, ?_⟩
        rw [← e]; exact h.ev h1
    · simp at hx
theorem gives_fnv (h : Rel w F X env n a st) {f : FuncId} {first captured : Array Operand} {oc : List Opd} {z : AV} (hfi : first.isEmpty = true) (hoc : captured.toList.mapM opd = some oc) (hx : veval (.fnv f oc) st = some z) :
    Gives false P w F env st (Instr.makeFunc (.func f) (first.map a.eval) (captured.map a.eval)) z := by
  simp only [veval, Option.bind_eq_some_iff] at hx
  obtain ⟨cs, hcs, hx⟩ := hx
  split at hx
  · rename_i ha
    obtain rfl := Option.some.inj hx
    have hf0 : first = #[] := by simpa using hfi
    subst hf0
    have he : (oc.map fun o => a.eval o.to) = (captured.map a.eval).toList := by
      rw [Array.toList_map, ← mapM_opd _ _ hoc]; simp
    refine ⟨.func (.func f) #[] (captured.map a.eval), fun w' _ => by simp [Instr.makeFunc], ⟨_, rfl, ?_, ?_⟩⟩
    · have h1 := congrArg List.length he
      have h2 : ∀ (l : List Opd) (r : List AV), l.mapM st.ev = some r → r.length = l.length := by
        intro l
        induction l with
        | nil => intro r hr; simp at hr; subst hr; rfl
        | cons o l ih =>
          intro r hr
          simp only [List.mapM_cons, Option.pure_def, Option.bind_eq_bind, Option.bind_eq_some_iff, Option.some.injEq] at hr
          obtain ⟨c, hc, r', hr', rfl⟩ := hr
          simp [ih r' hr']
      have h3 := h2 oc cs hcs
      simp at h1
      simp; omega
    · intro i c v hc hv
      have key : ∀ (l : List Opd) (r : List AV) (i : Nat) (c : AV), l.mapM st.ev = some r → r[i]? = some c → ∃ o, l[i]? = some o ∧ st.ev o = some c := by
        intro l
        induction l with
        | nil => intro r i c hr hi; simp at hr; subst hr; simp at hi
        | cons o l ih =>
          intro r i c hr hi
          simp only [List.mapM_cons, Option.pure_def, Option.bind_eq_bind, Option.bind_eq_some_iff, Option.some.injEq] at hr
          obtain ⟨c0, hc0, r', hr', rfl⟩ := hr
          cases i with
          | zero => simp at hi; subst hi; exact ⟨o, rfl, hc0⟩
          | succ i => simpa using ih r' i c hr' (by simpa using hi)
      obtain ⟨o', ho', hoc'⟩ := key oc cs i c hcs hc
      have hv2 : v = a.eval o'.to := by
        have e1 : (captured.map a.eval).toList[i]? = some v := by simpa using hv
        rw [← he, List.getElem?_map, ho'] at e1
        simpa using e1.symm
      have hsv := h.ev hoc'
      rw [← hv2] at hsv
      simp only [List.all_eq_true, Bool.and_eq_true, Bool.not_eq_true'] at ha
      obtain ⟨a1, a2⟩ := ha c (List.mem_of_getElem? hc)
      have := (SV_one a1).1 hsv
      cases c <;> simp_all [LR]
  · simp at hx
theorem fill_sound (h : Rel w F X env n a st) (pl : Nat → Option (Nat × Nat)) : ∀ (parts : List (Nat × Operand)) (ps : List (Nat × Nat × Opd)) (cs : List AV) (cells : Array Value) (cs' : List AV), compParts pl parts = some ps → fillA st cs ps = some cs' →
    cells.size = cs.length → (∀ (i : Nat) c v, cs[i]? = some c → cells[i]? = some v → LR w F env st.rt c v) →
    ∃ cells', Instr.fill pl cells (parts.map fun p => (p.1, a.eval p.2)) = some cells' ∧ cells'.size = cs'.length ∧ (∀ (i : Nat) c v, cs'[i]? = some c → cells'[i]? = some v → LR w F env st.rt c v)
  | [], ps, cs, cells, cs', hc, hf, hl, hr => by
    simp only [compParts, Option.some.injEq] at hc
    subst hc
    simp only [fillA, Option.some.injEq] at hf
    subst hf
    exact ⟨cells, rfl, hl, hr⟩
  | (i, x) :: parts, ps, cs, cells, cs', hc, hf, hl, hr => by
    simp only [compParts] at hc
    split at hc
    · rename_i off sz ox l h1 h2 h3
      simp only [Option.some.injEq] at hc
      subst hc
      simp only [fillA] at hf
      split at hf
      · rename_i y hy
        split at hf
        · rename_i hh
          obtain ⟨k1, k2, k3⟩ := hh
          have hv := h.ev hy
          rw [opd_to h2] at hv
          have hcl : (a.eval x).cells.size = y.cells.length ∧ ∀ (i : Nat) c v, y.cells[i]? = some c → (a.eval x).cells[i]? = some v → LR w F env st.rt c v := by
            by_cases hag : ∃ as, y = .agg as
            · obtain ⟨as, rfl⟩ := hag
              obtain ⟨us, hu, hul, hur⟩ := hv
              rw [hu]
              exact ⟨hul, hur⟩
            · have hone : y.one = true := by cases y <;> simp_all [AV.one, ntup]
              have hlr := (SV_one hone).1 hv
              rw [cells_of_one hlr.one, AV.cells_one hone]
              refine ⟨rfl, fun i c v hc hv' => ?_⟩
              cases i with
              | succ i => simp at hc
              | zero => simp at hc hv'; subst hc hv'; exact hlr
          have hfold : ((a.eval x).cells.zipIdx.foldl (fun cs (c, j) => cs.setIfInBounds (off + j) c) cells).toList = splice cells.toList off (a.eval x).cells.toList := by
            have := foldSet off (a.eval x).cells.toList 0 cells (by rw [Array.length_toList]; omega)
            rw [Nat.add_zero] at this
            rw [← this, ← Array.foldl_toList, Array.toList_zipIdx]
          have hsz : ((a.eval x).cells.zipIdx.foldl (fun cs (c, j) => cs.setIfInBounds (off + j) c) cells).size = cells.size := by
            rw [← Array.length_toList, hfold]
            simp [splice]; omega
          obtain ⟨cells', m1, m2, m3⟩ := fill_sound h pl parts l _ ((a.eval x).cells.zipIdx.foldl (fun cs (c, j) => cs.setIfInBounds (off + j) c) cells) cs' h3 hf
            (by rw [hsz, hl]; simp [splice]; omega)
            (by
              intro i c v hc hv'
              have hv2 : (splice cells.toList off (a.eval x).cells.toList)[i]? = some v := by rw [← hfold]; simpa using hv'
              simp only [splice, List.getElem?_append, List.length_take, List.getElem?_take, List.getElem?_drop, Array.length_toList] at hc hv2
              have e1 : min off cells.size = off := by omega
              have e2 : min off cs.length = off := by omega
              rw [e2] at hc
              rw [e1] at hv2
              by_cases a1 : i < off
              · simp only [a1, if_true] at hc hv2; exact hr i c v hc (by simpa using hv2)
              · simp only [a1, if_false] at hc hv2
                by_cases a2 : i - off < y.cells.length
                · rw [if_pos a2] at hc; rw [if_pos (by omega)] at hv2; exact hcl.2 _ c v hc (by simpa using hv2)
                · rw [if_neg a2] at hc; rw [if_neg (by omega)] at hv2
                  rw [hcl.1] at hv2
                  exact hr _ c v hc (by simpa using hv2))
          refine ⟨cells', ?_, m2, m3⟩
          simp only [List.map_cons, Instr.fill, h1]
          rw [if_neg (by simp; omega)]
          exact m1
        · simp at hf
      · simp at hf
    · simp at hc
theorem gives_bld (h : Rel w F X env n a st) {t : TypeId} {parts : Array (Nat × Operand)} {zc : List Value} {pl : Nat → Option (Nat × Nat)} {ps : List (Nat × Nat × Opd)} {z : AV} (hp : partPl P t = some (zc, pl)) (ho : zc.all Value.oneCell' = true) (hc : compParts pl parts.toList = some ps)
    (hx : veval (.bld zc ps) st = some z) : Gives false P w F env st (Instr.build t (parts.map fun (i, x) => (i, a.eval x))) z := by
  simp only [veval, Option.map_eq_some_iff] at hx
  obtain ⟨cs, hcs, rfl⟩ := hx
  obtain ⟨cells', h1, h2, h3⟩ := fill_sound h pl parts.toList ps (zc.map .v) zc.toArray cs hc hcs (by simp) (by
    intro i c v hc hv
    rw [List.getElem?_map, Option.map_eq_some_iff] at hc
    obtain ⟨v', hv', rfl⟩ := hc
    have : v = v' := by simpa [hv'] using hv.symm
    subst this
    exact Rep.v (List.all_eq_true.1 ho v (List.mem_of_getElem? hv')) fun _ _ h => h)
  refine ⟨.agg cells', fun w' _ => ?_, ⟨cells', rfl, h2, h3⟩⟩
  refine run_build w' t _ cells' ?_
  have hl : (parts.map fun (i, x) => (i, a.eval x)).toList = parts.toList.map fun p => (p.1, a.eval p.2) := by simp
  rw [hl]
  unfold partPl at hp
  unfold Program.built
  split at hp
  · rename_i it nn e hi hu
    split at hp
    · rename_i zv ie hz hie
      simp only [Option.some.injEq, Prod.mk.injEq] at hp
      obtain ⟨rfl, rfl⟩ := hp
      simp only [hi, hu, hz, hie]
      simpa using h1
    · simp at hp
  · rename_i it fields hi hu
    split at hp
    · rename_i zv places hz hpl
      simp only [Option.some.injEq, Prod.mk.injEq] at hp
      obtain ⟨rfl, rfl⟩ := hp
      simp only [hi, hu, hz, hpl]
      simpa using h1
    · simp at hp
  · simp at hp
theorem byteV_some {c : AV} {b : UInt8} (h : byteV c = some b) : c = .v (.int .u8 b.toNat) := by
  unfold byteV at h
  split at h
  · split at h
    · rename_i n hn
      obtain rfl := Option.some.inj h
      congr 2
      simp; omega
    · simp at h
  · simp at h
theorem foldl_push (bs : List UInt8) : ∀ (s : ByteArray), (bs.map fun b => ((b.toNat : Nat) : Int)).foldl (fun r n => r.push (UInt8.ofNat n.toNat)) s = ⟨s.data ++ bs.toArray⟩ := by
  induction bs with
  | nil => intro s; simp
  | cons b bs ih =>
    intro s
    simp only [List.map_cons, List.foldl_cons, ih]
    simp [ByteArray.push]
theorem run_b2s (w' : World) {B o len cap : Nat} (bs : List UInt8) (hl : bs.length = len) (hc : ∀ (i : Nat) b, bs[i]? = some b → w'.cell? ⟨B, o + i, none⟩ = some (.int .u8 b.toNat)) :
    (Conv.bytesToString (.slice (some ⟨B, o, none⟩) len cap)).run P w' = .ok (.string ⟨bs.toArray⟩) w' := by
  subst hl
  have hrun := run_loadCells_list (P := P) w' ⟨B, o, none⟩ ((bs.map fun b => ((b.toNat : Nat) : Int)).map (Value.int .u8)) (fun j v hj => by
    rw [List.getElem?_map, List.getElem?_map, Option.map_eq_some_iff] at hj
    obtain ⟨x, hx, rfl⟩ := hj
    rw [Option.map_eq_some_iff] at hx
    obtain ⟨b, hb, rfl⟩ := hx
    rw [add_plain', hc j b hb])
  rw [List.length_map, List.length_map] at hrun
  rw [run_bytesToString w' _ _ cap _ hrun, foldl_push]
  simp [ByteArray.empty, ByteArray.emptyWithCapacity]; rfl
theorem gives_b2s (h : Rel w F X env n a st) {s d e : TypeId} {x : Operand} {ox : Opd} {z : AV} (hs : P.underlying s = some (.slice e)) (he : P.underlying e = some (.int .u8)) (hd : P.underlying d = some .string) (hox : opd x = some ox) (hx : veval (.b2s ox) st = some z) :
    Gives true P w F env st (convert s d (a.eval x)) z := by
  simp only [veval] at hx
  cases h1 : st.ev ox with
  | none => simp [h1] at hx
  | some y =>
    simp only [h1] at hx
    cases h2 : rdS 1 st y with
    | none => simp [h2] at hx
    | some xs =>
      simp only [h2, Option.map_eq_some_iff] at hx
      obtain ⟨l, hl, rfl⟩ := hx
      have key : ∀ (xs : List AV) (l : List UInt8), xs.mapM byteV = some l → l.length = xs.length ∧ ∀ (i : Nat) b, l[i]? = some b → xs[i]? = some (.v (.int .u8 b.toNat)) := by
        intro xs
        induction xs with
        | nil => intro l hl; simp at hl; subst hl; simp
        | cons c xs ih =>
          intro l hl
          simp only [List.mapM_cons, Option.pure_def, Option.bind_eq_bind, Option.bind_eq_some_iff, Option.some.injEq] at hl
          obtain ⟨b0, hb0, l', hl', rfl⟩ := hl
          obtain ⟨k1, k2⟩ := ih l' hl'
          refine ⟨by simp [k1], ?_⟩
          intro i b hb
          cases i with
          | zero => simp at hb; subst hb; rw [byteV_some hb0]; rfl
          | succ i => simpa using k2 i b (by simpa using hb)
      obtain ⟨k1, k2⟩ := key xs l hl
      obtain ⟨ad, cap, hu, hcap, hcase⟩ := h.rd (h.ev h1) h2
      rw [← opd_to hox, hu]
      refine ⟨.string ⟨l.toArray⟩, fun w' hw' => ?_, SV_mk rfl⟩
      rw [run_convert_bytes_string w' s d e _ _ _ hs he hd]
      rcases hcase with ⟨rfl, rfl⟩ | ⟨B, o, rfl, hlen, hc⟩
      · have : l = [] := List.eq_nil_of_length_eq_zero (by simpa using k1)
        subst this
        cases ad with
        | none => simp [Conv.bytesToString, ByteArray.empty, ByteArray.emptyWithCapacity]; rfl
        | some a0 => simp [Conv.bytesToString, loadCells, ByteArray.empty, ByteArray.emptyWithCapacity]; rfl
      · refine run_b2s w' l k1 ?_
        intro i b hb
        have hxi := k2 i b hb
        obtain ⟨u, S, hu1, hu2⟩ := hc i _ hxi 0 (.v (.int .u8 b.toNat)) rfl
        cases hu2
        have := hw' rfl _ _ hu1
        simpa using this
def VE.isLd : VE → Bool
  | .ld _ _ => true
  | .b2s _ => true
  | _ => false
theorem eqW_ld {ng : Bool} {op : BinOp} {t : TypeId} {x y : Opd} : (eqW P ng op t x y).isLd = false := by
  unfold eqW
  split
  · split <;> rfl
  · rfl
/-- Each value operation gives what is said. -/
theorem veval_sound (h : Rel w F X env n a st) {o : Oper} {e : VE} {z : AV} (hc : compV P o.op = some e) (hx : veval e st = some z) :
    ∃ v, (∀ w', (e.isLd = true → CellsLe w w') → (execOp a.eval o).run P w' = .ok (.value v) w') ∧ SV w F env st.rt z v := by
  have fin : ∀ (b : Bool) (s : Sem Value), Gives b P w F env st s z → ∃ v, (∀ w', (b = true → CellsLe w w') → ((do pure (.value (← s)) : Sem Next)).run P w' = .ok (.value v) w') ∧ SV w F env st.rt z v := by
    rintro b s ⟨v, h1, h2⟩
    exact ⟨v, fun w' hw => by simp [h1 w' hw], h2⟩
  unfold execOp
  cases hop : o.op <;> simp only [hop, compV] at hc ⊢
  case move x => exact ⟨_, fun _ _ => rfl, gives_mv h hc hx⟩
  case assign x => exact ⟨_, fun _ _ => rfl, gives_mv h hc hx⟩
  case pick c x y =>
    simp only [Option.bind_eq_bind, Option.bind_eq_some_iff, Option.some.injEq] at hc
    obtain ⟨oc, hoc, ox, hox, oy, hoy, rfl⟩ := hc
    simp only [veval] at hx
    split at hx
    · rename_i t h1
      obtain ⟨e1, _⟩ := ev_val h hoc h1
      rw [e1]
      cases t with
      | true => exact ⟨a.eval x, fun _ _ => by simp [asBool], by rw [← opd_to hox]; exact h.ev hx⟩
      | false => exact ⟨a.eval y, fun _ _ => by simp [asBool], by rw [← opd_to hoy]; exact h.ev hx⟩
    · simp at hx
  case binOp op t x y yt =>
    simp only [Option.bind_eq_bind, Option.bind_eq_some_iff, Option.some.injEq] at hc
    obtain ⟨ox, hox, oy, hoy, rfl⟩ := hc
    cases hu : P.underlying t with
    | none =>
      have e : eqK P op t ox oy = .bin op ox oy := by unfold eqK; rw [hu]; cases op <;> rfl
      rw [e] at hx ⊢
      exact fin false _ (gives_bin h hox hoy hx)
    | some d =>
      cases d <;> cases op <;> (simp only [eqK, hu] at hx ⊢; first
        | exact fin false _ (gives_bin h hox hoy hx)
        | exact fin false _ (gives_eqb h (ng := false) hu hox hoy hx)
        | exact fin false _ (gives_eqb h (ng := true) hu hox hoy hx)
        | exact fin false _ (gives_eqp h (ng := false) hu hox hoy (fun hs => Option.isSome_iff_exists.1 hs) hx)
        | exact fin false _ (gives_eqp h (ng := true) hu hox hoy (fun hs => Option.isSome_iff_exists.1 hs) hx)
        | exact fin false _ (gives_eqs h (ng := false) hu hox hoy hx)
        | exact fin false _ (gives_eqs h (ng := true) hu hox hoy hx)
        | (rw [eqW_ld]; exact fin false _ (gives_eqW h (ng := false) (fun z hz => gives_bin h hox hoy hz) hox hoy hx))
        | (rw [eqW_ld]; exact fin false _ (gives_eqW h (ng := true) (fun z hz => gives_bin h hox hoy hz) hox hoy hx)))
  case unOp op t x =>
    simp only [Option.map_eq_some_iff] at hc
    obtain ⟨ox, hox, rfl⟩ := hc
    exact fin false _ (gives_un h hox hx)
  case convert s d x =>
    split at hc
    · rename_i ks k hs hd
      simp only [Option.map_eq_some_iff] at hc
      obtain ⟨ox, hox, rfl⟩ := hc
      exact fin false _ (gives_cvi h hs hd hox hx)
    · rename_i e' hs hd
      split at hc
      · rename_i he
        simp only [Option.map_eq_some_iff] at hc
        obtain ⟨ox, hox, rfl⟩ := hc
        exact fin true _ (gives_b2s h hs (isU8D_eq he) hd hox hx)
      · simp at hc
    · simp at hc
  case fieldAddr s x f =>
    split at hc
    · rename_i fields hs
      simp only [Option.bind_eq_bind, Option.bind_eq_some_iff] at hc
      obtain ⟨fl, hfl, m, hm, hc⟩ := hc
      split at hc
      · simp at hc
      · rename_i hm0
        simp only [Option.bind_eq_some_iff, Option.some.injEq] at hc
        obtain ⟨ox, hox, rfl⟩ := hc
        exact fin false _ (gives_fa h hs hfl hm hm0 hox hx)
    · simp at hc
  case indexAddr t x i =>
    split at hc
    · rename_i e' hu
      simp only [Option.bind_eq_bind, Option.bind_eq_some_iff, Option.some.injEq] at hc
      obtain ⟨ox, hox, oi, hoi, es, hes, rfl⟩ := hc
      exact fin false _ (gives_ia h hu hes hox hoi hx)
    · rename_i N e' hu
      simp only [Option.bind_eq_bind, Option.bind_eq_some_iff, Option.some.injEq] at hc
      obtain ⟨ox, hox, oi, hoi, es, hes, rfl⟩ := hc
      exact fin false _ (gives_iaa h hu hes hox hoi hx)
    · simp at hc
  case index t x i =>
    split at hc
    · rename_i hu
      simp only [Option.bind_eq_bind, Option.bind_eq_some_iff, Option.some.injEq] at hc
      obtain ⟨ox, hox, oi, hoi, rfl⟩ := hc
      exact fin false _ (gives_is h hu hox hoi hx)
    · rename_i N e' hu
      simp only [Option.bind_eq_bind, Option.bind_eq_some_iff, Option.some.injEq] at hc
      obtain ⟨ox, hox, oi, hoi, es, hes, m, hm, rfl⟩ := hc
      exact fin false _ (gives_ix h hu hes hm hox hoi hx)
    · simp at hc
  case load t x =>
    simp only [Option.bind_eq_bind, Option.bind_eq_some_iff, Option.some.injEq] at hc
    obtain ⟨ox, hox, m, hm, rfl⟩ := hc
    exact fin true _ (gives_ld h hm hox hx)
  case slice t x lo hi mx =>
    split at hc
    · rename_i hu
      split at hc
      · simp at hc
      · rename_i hmx
        simp only [Option.bind_eq_bind, Option.bind_eq_some_iff, Option.some.injEq] at hc
        obtain ⟨ox, hox, ol, hol, oh, hoh, rfl⟩ := hc
        have : mx = none := by simpa using hmx
        subst this
        exact fin false _ (gives_ss h hu hox hol hoh hx)
    · rename_i e' hu
      split at hc
      · simp at hc
      · rename_i hmx
        simp only [Option.bind_eq_bind, Option.bind_eq_some_iff, Option.some.injEq] at hc
        obtain ⟨ox, hox, ol, hol, oh, hoh, om, hom, es, hes, rfl⟩ := hc
        exact fin false _ (gives_sl h hu hes (by simpa [Option.isSome_iff_ne_none] using hmx) hox hol hoh hom hx)
    · rename_i N e' hu
      split at hc
      · simp at hc
      · rename_i hmx
        simp only [Option.bind_eq_bind, Option.bind_eq_some_iff, Option.some.injEq] at hc
        obtain ⟨ox, hox, ol, hol, oh, hoh, om, hom, es, hes, rfl⟩ := hc
        exact fin false _ (gives_sla h hu hes (by simpa [Option.isSome_iff_ne_none] using hmx) hox hol hoh hom hx)
    · simp at hc
  case extract t i =>
    simp only [Option.map_eq_some_iff] at hc
    obtain ⟨ot, hot, rfl⟩ := hc
    exact fin false _ (gives_ext h hot hx)
  case field t x f =>
    split at hc
    · rename_i fields hs
      simp only [Option.bind_eq_bind, Option.bind_eq_some_iff, Option.some.injEq] at hc
      obtain ⟨fl, hfl, ox, hox, m, hm, rfl⟩ := hc
      exact fin false _ (gives_fv h hs hfl hm hox hx)
    · simp at hc
  case nilCheck x =>
    simp only [Option.map_eq_some_iff] at hc
    obtain ⟨ox, hox, rfl⟩ := hc
    obtain ⟨p, h1, h2⟩ := gives_nc h hox hx
    rw [h1]
    exact ⟨_, fun _ _ => rfl, h2⟩
  case makeFunc fn first captured =>
    cases fn <;> simp only at hc
    case func f =>
      split at hc
      · rename_i hfi
        simp only [Option.map_eq_some_iff] at hc
        obtain ⟨oc, hoc, rfl⟩ := hc
        exact fin false _ (gives_fnv h hfi hoc hx)
      · simp at hc
    all_goals simp at hc
  case call c =>
    obtain ⟨callee, args, argTypes⟩ := c
    cases callee
    case builtin b =>
      cases b
      case len =>
        simp only at hc
        split at hc
        · rename_i t x ht hxa
          simp only [resolve, Sem.run_bind, Sem.run_pure, Result.andThen_ok, invoke, builtin]
          split at hc
          · rename_i hu
            simp only [Option.map_eq_some_iff] at hc
            obtain ⟨ox, hox, rfl⟩ := hc
            have := fin false _ (gives_lns (ty := o.type) h ht hxa hu hox hx)
            simpa [VE.isLd] using this
          · rename_i e' hu
            simp only [Option.bind_eq_bind, Option.bind_eq_some_iff, Option.some.injEq] at hc
            obtain ⟨ox, hox, es, hes, rfl⟩ := hc
            have := fin false _ (gives_lnl (ty := o.type) h ht hxa hu hox hx)
            simpa [VE.isLd] using this
          · rename_i N e' hu
            simp only [Option.some.injEq] at hc
            subst hc
            have := fin false _ (gives_cstlen (ty := o.type) h ht hxa hu hx)
            simpa [VE.isLd] using this
          · simp at hc
        · simp at hc
      case min =>
        simp only at hc
        split at hc
        · rename_i x y hl
          simp only [Option.bind_eq_bind, Option.bind_eq_some_iff, Option.some.injEq] at hc
          obtain ⟨ox, hox, oy, hoy, rfl⟩ := hc
          simp only [resolve, Sem.run_bind, Sem.run_pure, Result.andThen_ok, invoke, builtin]
          have := fin false _ (gives_mn (ts := argTypes) (ty := o.type) h hl hox hoy hx)
          simpa [VE.isLd] using this
        · simp at hc
      case max =>
        simp only at hc
        split at hc
        · rename_i x y hl
          simp only [Option.bind_eq_bind, Option.bind_eq_some_iff, Option.some.injEq] at hc
          obtain ⟨ox, hox, oy, hoy, rfl⟩ := hc
          simp only [resolve, Sem.run_bind, Sem.run_pure, Result.andThen_ok, invoke, builtin]
          have := fin false _ (gives_mx (ts := argTypes) (ty := o.type) h hl hox hoy hx)
          simpa [VE.isLd] using this
        · simp at hc
      all_goals (first | (simp at hc; done) | exact absurd hc (by simp))
    all_goals (first | (simp at hc; done) | exact absurd hc (by simp))
  case build t parts =>
    split at hc
    · rename_i zc pl hp
      split at hc
      · rename_i ho
        simp only [Option.map_eq_some_iff] at hc
        obtain ⟨ps, hps, rfl⟩ := hc
        exact fin false _ (gives_bld h hp ho hps hx)
      · simp at hc
    · simp at hc
  all_goals simp at hc
end
end Go.Proofs.YthlehngbadianaaDoor.Ow
