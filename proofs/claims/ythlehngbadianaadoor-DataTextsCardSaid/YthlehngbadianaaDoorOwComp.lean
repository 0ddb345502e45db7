/- Compact operations: what an operation is compiled to, what it does to the state, and that it does so. -/
import Derived.Test.YthlehngbadianaaDoorOwMpCall4
set_option linter.unusedVariables false
set_option linter.unusedSimpArgs false
set_option linter.unnecessarySimpa false
namespace Go.Proofs.YthlehngbadianaaDoor.Ow
open Go Go.RowKit
inductive CK where
  | val (e : VE)
  | mk (l c : Opd) (z : Value) (es bytes : Nat)
  | lit (es : Nat) (os : List Opd)
  | app (es bytes : Nat) (isStr : Bool) (x y : Opd)
  | store (m : Nat) (x y : Opd)
  | box (s : Nat)
  | alloc (z : Value)
  | allocF (z : Value) (t : TypeId)
  | copy (x y : Opd)
  | call (f : FuncId) (args : List Opd)
  | callP (f : FuncId) (args : List Opd)
  | callC (g : Opd) (args : List Opd)
  | mkMap
  | bad (b : Bool)
  | litE (es : Nat)
  | appE (es bytes : Nat) (isStr : Bool) (x y : Opd)
def CK.isStore : CK → Bool
  | .store _ _ _ => true
  | .bad b => !b
  | _ => false
def CK.calm : CK → Bool
  | .val _ => true
  | .mk _ _ _ _ _ => true
  | .lit _ _ => true
  | .box _ => true
  | .alloc _ => true
  | .allocF _ _ => true
  | .callP _ _ => true
  | .callC _ _ => true
  | .litE _ => true
  | .appE _ _ _ _ _ => true
  | _ => false
/-- What it is of Go's: an empty literal that only grows, and the growing, are kinds of their own. -/
def CK.norm : CK → CK
  | .litE es => .lit es []
  | .appE es b s x y => .app es b s x y
  | k => k
def compApp (P : Program) (args : List Operand) (ats : List TypeId) : Option CK :=
  match args, ats with
  | [x, y], [t, ty] =>
    match opd x, opd y, mkInfo P t, P.underlying ty with
    | some ox, some oy, some (_, _, es, b), some .string => some (.app es b true ox oy)
    | some ox, some oy, some (_, _, es, b), some (.slice _) => some (.app es b false ox oy)
    | _, _, _, _ => none
  | _, _ => none
def compCopy (P : Program) (args : List Operand) (ats : List TypeId) : Option CK :=
  match args, ats with
  | [x, y], [t, _] =>
    match opd x, opd y, P.underlying t with
    | some ox, some oy, some (.slice e) => if (P.info? e).map (·.size) = some 1 then some (.copy ox oy) else none
    | _, _, _ => none
  | _, _ => none
/-- Nothing of this type is ever lent. -/
def ownT (P : Program) (t : TypeId) : Bool :=
  match P.underlying t with
  | some (.pointer _) => false
  | some (.slice _) => false
  | some (.map _ _) => false
  | some _ => true
  | none => false
def compCall (P : Program) (f : FuncId) (args : List Operand) : Option CK :=
  match P.funcs[f]?, args.mapM opd with
  | some fn, some os => if (fn.name == "runtime.NumGoroutine") = false ∧ fn.body.isNone = false then some (if fn.params.all (ownT P) = true then .callP f os else .call f os) else none
  | _, _ => none
def compCallC (s : Nat) (args : List Operand) : Option CK :=
  match args.mapM opd with
  | some os => some (.callC (.s s) os)
  | none => none
def compLit (P : Program) (t : TypeId) (len : Nat) (parts : List (Nat × Operand)) : Option CK :=
  match mkInfo P t, (parts.map (·.2)).mapM opd with
  | some (_, _, es, _), some os => if parts.map (·.1) = List.range len ∧ len * es ≤ 16777216 then some (.lit es os) else none
  | _, _ => none
/-- A strings.Builder as it begins (or what looks like it). -/
def isBld : Value → Bool
  | .agg cs => match cs.toList with
    | [.pointer none, .slice none 0 0] => true
    | _ => false
  | _ => false
def allocK (z : Value) (t : TypeId) : CK := if isBld z = true then .allocF z t else .alloc z
def compK (P : Program) (o : Op) : Option CK :=
  match o with
  | .makeSlice t l c =>
    match opd l, opd c, mkInfo P t with
    | some ol, some oc, some (_, z, es, b) => some (.mk ol oc z es b)
    | _, _, _ => none
  | .buildSlice t len parts => compLit P t len parts.toList
  | .call { callee := .builtin .append, args, argTypes } => compApp P args.toList argTypes.toList
  | .call { callee := .builtin .copy, args, argTypes } => compCopy P args.toList argTypes.toList
  | .call { callee := .value (.func f), args, argTypes } => compCall P f args.toList
  | .call { callee := .value (.tmp s), args, argTypes } => compCallC s args.toList
  | .makeMap t none => some .mkMap
  | .store ty x y =>
    match opd x, opd y, sizeT P ty with
    | some ox, some oy, some m => some (.store m ox oy)
    | _, _, _ => none
  | .box t (.tmp s) => some (.box s)
  | .alloc t =>
    match (P.info? t).bind (·.zero) with
    | some z => if plainZero z = true then some (allocK z t) else none
    | none => none
  | op => (compV P op).map .val
/-- An operation: its guard, its slot, what it is; the slots that are forgotten behind it; which argument is lent; the slots whose lists are frozen before it. -/
structure CO where
  g : Option (Nat × Bool)
  d : Nat
  k : CK
  x : List Nat
  l : Option Nat
  z : List Nat
def stV (d : Nat) (st : St) : Option AV → Option St
  | some z => some (st.set d z)
  | none => none
def mkFin (d : Nat) (z : Value) (es bytes : Nat) (st : St) : Option Int → Option Int → Option St
  | some lv, some cv => if 0 ≤ lv ∧ lv ≤ cv ∧ (bytes : Int) * cv ≤ 281474976710656 ∧ cv ≤ 9223372036854775807 then some ((st.new (2000 + d) (.own es (List.replicate lv.toNat (zeroAV z)))).set d (.sl ⟨2000 + d, [], 0⟩ es 0 lv.toNat)) else none
  | _, _ => none
def stK (d : Nat) (k : CK) (st : St) : Option St :=
  match k with
  | .val e => stV d st (veval e st)
  | .mk l c z es b => mkFin d z es b st (st.int l) (st.int c)
  | .lit es os => litFin d es st (evL st os)
  | .app es b isStr x y => app1 d es b isStr st (st.ev x) (st.ev y)
  | .store m x y => store1 m st (st.ev x) (st.ev y)
  | .box s => box1 d s st (st.sl.get s)
  | .alloc z => some ((st.new (1000 + d) (zeroAV z)).set d (.ref ⟨1000 + d, [], 0⟩))
  | .allocF z t => some (addRf [(1000 + d, 1, .sa ⟨1000 + d, [], 0⟩ 0 t 2)] ((st.new (1000 + d) (zeroAV z)).set d (.ref ⟨1000 + d, [], 0⟩)))
  | .copy x y => copy1 d st (st.ev x) (st.ev y)
  | .call _ _ => none
  | .callP _ _ => none
  | .callC _ _ => none
  | .mkMap => none
  | .bad _ => none
  | .litE es => some ((st.new (1000 + d) (.agg [])).set d (.sa ⟨1000 + d, [], 0⟩ es 0 0))
  | .appE es b isStr x y => appE1 d es b isStr st (st.ev x) (st.ev y)
theorem isBld_eq {z : Value} (h : isBld z = true) : z = .agg #[.pointer none, .slice none 0 0] := by
  unfold isBld at h
  split at h
  · rename_i cs
    split at h
    · rename_i h2
      rw [← Array.toArray_toList (xs := cs), h2]
    · simp at h
  · simp at h
/-- A variable is made that is known to be all of its block. -/
theorem AOpC_allocF {P : Program} {n : Nat} {st : St} {K : Post} {o : Oper} {t : TypeId} {d : Nat} {b : Bool} {z : Value} (hop : o.op = .alloc t) (hz : (P.info? t).bind (·.zero) = some z) (hpl : plainZero z = true) (hbld : isBld z = true) (hd : o.dst = some d) (hdn : d < n) (hn : n ≤ 1000)
    (hk : K (addRf [(1000 + d, 1, .sa ⟨1000 + d, [], 0⟩ 0 t 2)] ((st.new (1000 + d) (zeroAV z)).set d (.ref ⟨1000 + d, [], 0⟩)))) : AOpC b P n o st K := by
  obtain rfl := isBld_eq hbld
  intro w F env a h
  rw [Option.bind_eq_some_iff] at hz
  obtain ⟨i, hi, hz⟩ := hz
  have hexec : (execOp a.eval o).run P w = .ok (.value (.pointer (some ⟨w.heap.size, 0, none⟩))) (w.alloc (.cells #[.pointer none, .slice none 0 0] t)) := by
    unfold execOp
    simp [hop, Instr.alloc, zeroValue, typeInfo, hi, hz, newVar, newRow, Value.cells]
  simp only [Oper.wp, hexec, Oper.upon, hd]
  have hbel : Below w.heap.size w (w.alloc (.cells #[.pointer none, .slice none 0 0] t)) := (Below.refl _ _).alloc (Nat.le_refl _) _
  refine ⟨fun _ => hbel, ?_⟩
  have hnd : Nd (w.alloc (.cells #[.pointer none, .slice none 0 0] t)) (fun b a => F b a ∨ (b = w.heap.size ∧ a < 2)) (zeroAV (.agg #[.pointer none, .slice none 0 0])).cells w.heap.size 0 (fun b a => b = w.heap.size ∧ a < 2) := by
    refine Nd.fresh rfl (Blk_alloc (by simp)) ?_
    intro i c hc
    rw [cell_alloc_new]
    match i, hc with
    | 0, hc => simp [zeroAV, AV.cells] at hc; subst hc; exact ⟨_, rfl, .v rfl fun _ _ h => h⟩
    | 1, hc => simp [zeroAV, AV.cells] at hc; subst hc; exact ⟨_, rfl, .v rfl fun _ _ h => h⟩
    | i + 2, hc => simp [zeroAV, AV.cells] at hc
  obtain ⟨k1, k2⟩ := h.newRoot hbel (r := 1000 + d) (pin_loc hdn hn 0 (by omega)) (x := zeroAV (.agg #[.pointer none, .slice none 0 0])) (l := .mem w.heap.size 0) (S := fun b a => b = w.heap.size ∧ a < 2) (by rintro b a ⟨rfl, _⟩; simp) hnd ⟨fun _ => ⟨_, _, rfl⟩, fun h => by simp [VB] at h; omega⟩
  have k3 := k1.set hdn ref_new
  refine ⟨_, _, _, hk, k3.addRf [(1000 + d, 1, .sa ⟨1000 + d, [], 0⟩ 0 t 2)] ?_, k2⟩
  intro e he
  simp only [List.mem_singleton] at he
  subst he
  have hget : ((st.new (1000 + d) (zeroAV (.agg #[.pointer none, .slice none 0 0]))).set d (.ref ⟨1000 + d, [], 0⟩)).rt.get (1000 + d) = some (zeroAV (.agg #[.pointer none, .slice none 0 0])) := St.new_get _ _ _
  refine ⟨w.heap.size, 0, .slice none 0 0, by simp, ⟨_, hget, by simp [zeroAV, AV.cells]⟩, by rw [cell_alloc_new]; rfl, ?_⟩
  refine ⟨w.heap.size, 0, 0, rloc_nil hget (by simp), ?_⟩
  unfold SaOk
  rw [if_pos rfl]
  refine ⟨rfl, ?_, rfl⟩
  have := heap_alloc_new w (.cells #[.pointer none, .slice none 0 0] t)
  unfold World.shape?
  rw [this]
  rfl
section
variable {P : Program} {n : Nat} {st : St} {K : Post}
theorem stK_sound (hn : n ≤ 1000) {o : Oper} {k : CK} {d : Nat} (hc : compK P o.op = some k) (hd : k.isStore = true ∧ o.dst = none ∨ k.isStore = false ∧ o.dst = some d ∧ d < n) {st' : St} (h : stK d k st = some st') (hk : K st') : AOpC k.calm P n o st K := by
  generalize hop : o.op = op at hc
  unfold compK at hc
  split at hc
  · split at hc
    · rename_i ol oc e z es b h1 h2 h3
      simp only [Option.some.injEq] at hc
      subst hc
      simp only [CK.isStore, Bool.false_eq_true, false_and, true_and, false_or] at hd
      simp only [stK] at h
      cases hl : st.int ol with
      | none => rw [hl] at h; simp [mkFin] at h
      | some lv =>
      cases hcv : st.int oc with
      | none => rw [hl, hcv] at h; simp [mkFin] at h
      | some cv =>
      rw [hl, hcv] at h
      simp only [mkFin] at h
      split at h
      · rename_i hh
        obtain rfl := Option.some.inj h
        exact AOpC_mk hop h1 h2 h3 hd.1 hd.2 hn hl hcv hh.1 hh.2.1 hh.2.2.1 hh.2.2.2 hk
      · simp at h
    · simp at hc
  · rename_i t len parts
    unfold compLit at hc
    split at hc
    · rename_i e z es bytes os hi hos
      split at hc
      · rename_i hh
        obtain ⟨h1, h2⟩ := hh
        simp only [Option.some.injEq] at hc
        subst hc
        simp only [CK.isStore, Bool.false_eq_true, false_and, true_and, false_or] at hd
        exact lit_sound hop h1 hos hi hd.1 hd.2 hn h2 h hk
      · simp at hc
    · simp at hc
  · rename_i args ats
    unfold compApp at hc
    split at hc
    · rename_i x y t ty hl1 hl2
      split at hc
      · rename_i ox oy e z es b h1 h2 h3 h4
        simp only [Option.some.injEq] at hc
        subst hc
        simp only [CK.isStore, Bool.false_eq_true, false_and, true_and, false_or] at hd
        exact (app_sound (appSrc_info hop hl1 hl2 h3 (isStr := true) (by simpa using h4)) h1 h2 hd.1 hd.2 hn h hk).c
      · rename_i ox oy e z es b e' h1 h2 h3 h4
        simp only [Option.some.injEq] at hc
        subst hc
        simp only [CK.isStore, Bool.false_eq_true, false_and, true_and, false_or] at hd
        exact (app_sound (appSrc_info hop hl1 hl2 h3 (isStr := false) (by simpa using ⟨_, h4⟩)) h1 h2 hd.1 hd.2 hn h hk).c
      · simp at hc
    · simp at hc
  · rename_i args ats
    unfold compCopy at hc
    split at hc
    · rename_i x y t ty hl1 hl2
      split at hc
      · rename_i ox oy e h1 h2 h3
        split at hc
        · rename_i hs
          simp only [Option.some.injEq] at hc
          subst hc
          simp only [CK.isStore, Bool.false_eq_true, false_and, true_and, false_or] at hd
          simp only [stK] at h
          have e1 : args = #[x, y] := by rw [← Array.toArray_toList (xs := args), hl1]
          have e2 : ats = #[t, ty] := by rw [← Array.toArray_toList (xs := ats), hl2]
          rw [e1, e2] at hop
          exact (copy_sound hop h3 hs h1 h2 hd.1 hd.2 h hk).c
        · simp at hc
      · simp at hc
    · simp at hc
  · rename_i f args ats
    unfold compCall at hc
    split at hc
    · split at hc
      · simp only [Option.some.injEq] at hc
        split at hc <;> (subst hc; simp [stK] at h)
      · simp at hc
    · simp at hc
  · rename_i s args ats
    unfold compCallC at hc
    split at hc
    · simp only [Option.some.injEq] at hc; subst hc; simp [stK] at h
    · simp at hc
  · simp only [Option.some.injEq] at hc; subst hc; simp [stK] at h
  · rename_i ty x y
    split at hc
    · rename_i ox oy m h1 h2 h3
      simp only [Option.some.injEq] at hc
      subst hc
      simp only [CK.isStore, Bool.true_eq_false, false_and, true_and, or_false] at hd
      exact (store_sound hop hd h1 h2 h3 h hk).c
    · simp at hc
  · rename_i t s
    simp only [Option.some.injEq] at hc
    subst hc
    simp only [CK.isStore, Bool.false_eq_true, false_and, true_and, false_or] at hd
    exact box_sound hop hd.1 hd.2 hn h hk
  · rename_i t
    split at hc
    · rename_i z hz
      split at hc
      · rename_i hp
        simp only [Option.some.injEq] at hc
        subst hc
        unfold allocK at hd h
        unfold allocK
        split at h
        · rename_i hb
          simp only [stK, Option.some.injEq] at h
          subst h
          simp only [hb, if_true, CK.isStore, Bool.false_eq_true, false_and, true_and, false_or] at hd ⊢
          exact AOpC_allocF hop hz hp hb hd.1 hd.2 hn hk
        · rename_i hb
          simp only [stK, Option.some.injEq] at h
          subst h
          simp only [hb, if_false, CK.isStore, Bool.false_eq_true, false_and, true_and, false_or] at hd ⊢
          exact AOpC_alloc hop hz hp hd.1 hd.2 hn hk
      · simp at hc
    · simp at hc
  · subst hop
    simp only [Option.map_eq_some_iff] at hc
    obtain ⟨e, he, rfl⟩ := hc
    rcases hd with ⟨h1, _⟩ | ⟨_, h1, h2⟩
    · simp [CK.isStore] at h1
    · simp only [stK] at h
      cases hv : veval e st with
      | none => rw [hv] at h; simp [stV] at h
      | some z =>
        rw [hv] at h
        simp only [stV, Option.some.injEq] at h
        subst h
        exact AOpC_val he h1 h2 hv hk
/-! Calls. -/
def lendR (P : Program) (f : FuncId) (dst : Option Nat) (st : St) (xs : List AV) (q : Pl) (K : Post) (x : AV) : Rfs → Prop → Prop
  | [], p => p
  | e :: rf, _ => ACallsR P f [(0, x)] (e :: rf) (xs.map (lvA q.r st (isLN q.r []) lvN)) (callRQ dst xs q.r x.cells.length (plugN st q.r x [] x.cells.length) (mapN q.r []) (isLN q.r []) K)
def rfOf (st : St) (q : Pl) : Rfs := match q.path with
  | [] => rfMove q.r 0 st.rf
  | _ :: _ => []
def lendN (P : Program) (f : FuncId) (dst : Option Nat) (st : St) (xs : List AV) (q : Pl) (K : Post) : Option AV → Option AV → Prop
  | some x, some z => (q.path = [] → q.r < VB) ∧ lendR P f dst st xs q K x (rfOf st q) (ACalls P f [(0, z)] (xs.map (lvA q.r st (isLN q.r q.path) lvN)) (callLQ dst xs 0 (fun t' => t'.cells.length == z.cells.length) (plugN st q.r x q.path z.cells.length) (mapN q.r q.path) (isLN q.r q.path) K))
  | _, _ => False
def lendS (P : Program) (f : FuncId) (dst : Option Nat) (st : St) (xs : List AV) (q : Pl) (es : Nat) (K : Post) : Option AV → Option AV → Prop
  | some x, some (.own es' ys) => es' = es ∧
    if VB ≤ q.r ∧ q.path = [] then q.j = 0 ∧ x.one = true ∧ ACalls P f [(9000, .own es ys)] (xs.map (lvA q.r st (isAt q.r [] 0) lvL)) (callLQ dst xs 9000 (okL es ys.length) (plugV st q.r) (mapL q.r [] 0) (isAt q.r [] 0) K)
    else ACalls P f [(9000, .own es ys)] (xs.map (lvA q.r st (isAt q.r q.path q.j) lvL)) (callLQ dst xs 9000 (okL es ys.length) (plugL st q.r x q.path q.j) (mapL q.r q.path q.j) (isAt q.r q.path q.j) K)
  | _, _ => False
def isExt : AV → Bool
  | .ext _ => true
  | _ => false
/-- The root that stands for a map (there is one). -/
def findExt : Al → Option (Nat × AV)
  | [] => none
  | (r, x) :: l => if VB ≤ r ∧ r ≠ HID ∧ isExt x = true then some (r, x) else findExt l
def lendM (P : Program) (f : FuncId) (dst : Option Nat) (st : St) (xs : List AV) (K : Post) : Option (Nat × AV) → Prop
  | some (r, x) => VB ≤ r ∧ st.rt.get r = some x ∧ ACalls P f [(9000, x)] (xs.map (lvA r st (fun _ => false) id)) (callLQ dst xs 9000 (fun _ => true) (plugE st r) (fun _ => none) (fun _ => false) K)
  | none => False
def lendA (P : Program) (f : FuncId) (dst : Option Nat) (st : St) (xs : List AV) (K : Post) : Option AV → Prop
  | some (.ref q) => lendN P f dst st xs q K (st.rt.get q.r) (st.node q)
  | some (.sl q es _ _) => lendS P f dst st xs q es K (st.rt.get q.r) (cellAt st.rt q.r q.path q.j)
  | some (.v (.map (some _))) => lendM P f dst st xs K (findExt st.rt)
  | _ => False
def callS (P : Program) (f : FuncId) (dst : Option Nat) (l : Option Nat) (st : St) (K : Post) : Option (List AV) → Prop
  | some xs => xs.all ntup = true ∧ match l with
    | none => ACalls P f [] (xs.map (vw none st)) (callQ dst st xs K)
    | some i => lendA P f dst st xs K xs[i]?
  | none => False
/-- The function is one of the program's own. -/
def fnGood (P : Program) (f : FuncId) : Bool := match P.funcs[f]? with
  | some fn => !(fn.name == "runtime.NumGoroutine") && !fn.body.isNone
  | none => false
def callCS (P : Program) (dst : Option Nat) (st : St) (K : Post) : Option AV → Option (List AV) → Prop
  | some (.fn f caps), some xs => xs.all ntup = true ∧ caps.all capOk = true ∧ fnGood P f = true ∧ ACalls P f [] ((xs ++ caps).map (vw none st)) (callQ dst st (xs ++ caps) K)
  | _, _ => False
theorem mapM_opdTo : ∀ (as : List Operand) (args : List Opd), as.mapM opd = some args → args.map Opd.to = as
  | [], args, h => by simp at h; subst h; rfl
  | a :: as, args, h => by
    simp only [List.mapM_cons, Option.pure_def, Option.bind_eq_bind, Option.bind_eq_some_iff, Option.some.injEq] at h
    obtain ⟨o, ho, r, hr, rfl⟩ := h
    simp [opd_to ho, mapM_opdTo as r hr]
theorem call_inv {o : Oper} {f : FuncId} {args : List Opd} (h : compK P o.op = some (.call f args)) :
    ∃ as ats fn, o.op = .call { callee := .value (.func f), args := as, argTypes := ats } ∧ P.funcs[f]? = some fn ∧ (fn.name == "runtime.NumGoroutine") = false ∧ fn.body.isNone = false ∧ args.map Opd.to = as.toList := by
  generalize hop : o.op = op at h
  unfold compK at h
  split at h
  · split at h <;> simp at h
  · unfold compLit at h
    split at h
    · split at h <;> simp at h
    · simp at h
  · unfold compApp at h
    split at h
    · split at h <;> simp at h
    · simp at h
  · unfold compCopy at h
    split at h
    · split at h
      · split at h <;> simp at h
      · simp at h
    · simp at h
  · rename_i f' as ats
    unfold compCall at h
    split at h
    · rename_i fn os h1 h2
      split at h
      · rename_i hh
        simp only [Option.some.injEq] at h
        split at h
        · cases h
        · simp only [CK.call.injEq] at h
          obtain ⟨rfl, rfl⟩ := h
          exact ⟨as, ats, fn, rfl, h1, hh.1, hh.2, mapM_opdTo _ _ h2⟩
      · simp at h
    · simp at h
  · unfold compCallC at h
    split at h <;> simp at h
  · simp at h
  · split at h <;> simp at h
  · simp at h
  · split at h
    · split at h
      · unfold allocK at h; split at h <;> simp at h
      · simp at h
    · simp at h
  · simp only [Option.map_eq_some_iff] at h
    obtain ⟨e, _, h⟩ := h
    simp at h
theorem compK_no {op : Op} {k : CK} (h : compK P op = some k) : k.norm = k ∧ (∀ es, k ≠ .litE es) ∧ ∀ es b s x y, k ≠ .appE es b s x y := by
  have key : (∀ es, k ≠ .litE es) ∧ ∀ es b s x y, k ≠ .appE es b s x y := by
    constructor
    all_goals
      intros
      rintro rfl
      unfold compK at h
      split at h
      · split at h <;> simp at h
      · unfold compLit at h
        split at h
        · split at h <;> simp at h
        · simp at h
      · unfold compApp at h
        split at h
        · split at h <;> simp at h
        · simp at h
      · unfold compCopy at h
        split at h
        · split at h
          · split at h <;> simp at h
          · simp at h
        · simp at h
      · unfold compCall at h
        split at h
        · split at h
          · simp only [Option.some.injEq] at h
            split at h <;> cases h
          · simp at h
        · simp at h
      · unfold compCallC at h
        split at h <;> simp at h
      · simp at h
      · split at h <;> simp at h
      · simp at h
      · split at h
        · split at h
          · unfold allocK at h; split at h <;> simp at h
          · simp at h
        · simp at h
      · simp only [Option.map_eq_some_iff] at h
        obtain ⟨e, _, h⟩ := h
        cases h
  refine ⟨?_, key⟩
  cases k <;> first | rfl | exact absurd rfl (key.1 _) | exact absurd rfl (key.2 _ _ _ _ _)
theorem lit_inv {op : Op} {es : Nat} {os : List Opd} (h : compK P op = some (.lit es os)) : ∃ t len parts e z b, op = .buildSlice t len parts ∧ mkInfo P t = some (e, z, es, b) ∧ (parts.toList.map (·.2)).mapM opd = some os ∧ parts.toList.map (·.1) = List.range len := by
  unfold compK at h
  split at h
  · split at h <;> simp at h
  · rename_i t len parts
    unfold compLit at h
    split at h
    · rename_i e z es' b os' hi hos
      split at h
      · rename_i hh
        simp only [Option.some.injEq, CK.lit.injEq] at h
        obtain ⟨rfl, rfl⟩ := h
        exact ⟨t, len, parts, e, z, b, rfl, hi, hos, hh.1⟩
      · simp at h
    · simp at h
  · unfold compApp at h
    split at h
    · split at h <;> simp at h
    · simp at h
  · unfold compCopy at h
    split at h
    · split at h
      · split at h <;> simp at h
      · simp at h
    · simp at h
  · unfold compCall at h
    split at h
    · split at h
      · simp only [Option.some.injEq] at h
        split at h <;> cases h
      · simp at h
    · simp at h
  · unfold compCallC at h
    split at h <;> simp at h
  · simp at h
  · split at h <;> simp at h
  · simp at h
  · split at h
    · split at h
      · unfold allocK at h; split at h <;> simp at h
      · simp at h
    · simp at h
  · simp only [Option.map_eq_some_iff] at h
    obtain ⟨e, _, h⟩ := h
    cases h
theorem app_inv {o : Oper} {es b : Nat} {s : Bool} {ox oy : Opd} (h : compK P o.op = some (.app es b s ox oy)) : ∃ x y t ty e z, AppInfo P o x y t ty e z es b s ∧ opd x = some ox ∧ opd y = some oy := by
  generalize hop : o.op = op at h
  unfold compK at h
  split at h
  · split at h <;> simp at h
  · unfold compLit at h
    split at h
    · split at h <;> simp at h
    · simp at h
  · rename_i args ats
    unfold compApp at h
    split at h
    · rename_i x y t ty hl1 hl2
      split at h
      · rename_i ox' oy' e z es' b' h1 h2 h3 h4
        simp only [Option.some.injEq, CK.app.injEq] at h
        obtain ⟨rfl, rfl, rfl, rfl, rfl⟩ := h
        exact ⟨x, y, t, ty, e, z, appSrc_info hop hl1 hl2 h3 (isStr := true) (by simpa using h4), h1, h2⟩
      · rename_i ox' oy' e z es' b' e' h1 h2 h3 h4
        simp only [Option.some.injEq, CK.app.injEq] at h
        obtain ⟨rfl, rfl, rfl, rfl, rfl⟩ := h
        exact ⟨x, y, t, ty, e, z, appSrc_info hop hl1 hl2 h3 (isStr := false) (by simpa using ⟨_, h4⟩), h1, h2⟩
      · simp at h
    · simp at h
  · unfold compCopy at h
    split at h
    · split at h
      · split at h <;> simp at h
      · simp at h
    · simp at h
  · unfold compCall at h
    split at h
    · split at h
      · simp only [Option.some.injEq] at h
        split at h <;> cases h
      · simp at h
    · simp at h
  · unfold compCallC at h
    split at h <;> simp at h
  · simp at h
  · split at h <;> simp at h
  · simp at h
  · split at h
    · split at h
      · unfold allocK at h; split at h <;> simp at h
      · simp at h
    · simp at h
  · simp only [Option.map_eq_some_iff] at h
    obtain ⟨e, _, h⟩ := h
    cases h
theorem stK_soundE (hn : n ≤ 1000) {o : Oper} {k : CK} {d : Nat} (hc : compK P o.op = some k.norm) (hd : k.isStore = true ∧ o.dst = none ∨ k.isStore = false ∧ o.dst = some d ∧ d < n) {st' : St} (h : stK d k st = some st') (hk : K st') : AOpC k.calm P n o st K := by
  cases k
  case litE es =>
    obtain ⟨t, len, parts, e, z, b, h1, h2, h3, h4⟩ := lit_inv hc
    simp only [CK.isStore, Bool.false_eq_true, false_and, true_and, false_or] at hd
    simp only [stK, Option.some.injEq] at h
    subst h
    exact litE_sound h1 h4 h3 h2 hd.1 hd.2 hn hk
  case appE es b s x y =>
    obtain ⟨x', y', t, ty, e, z, hI, h1, h2⟩ := app_inv hc
    simp only [CK.isStore, Bool.false_eq_true, false_and, true_and, false_or] at hd
    exact appE_sound hI h1 h2 hd.1 hd.2 hn h hk
  all_goals exact stK_sound hn hc hd h hk
theorem callP_inv {o : Oper} {f : FuncId} {args : List Opd} (h : compK P o.op = some (.callP f args)) :
    ∃ as ats fn, o.op = .call { callee := .value (.func f), args := as, argTypes := ats } ∧ P.funcs[f]? = some fn ∧ (fn.name == "runtime.NumGoroutine") = false ∧ fn.body.isNone = false ∧ args.map Opd.to = as.toList := by
  generalize hop : o.op = op at h
  unfold compK at h
  split at h
  · split at h <;> simp at h
  · unfold compLit at h
    split at h
    · split at h <;> simp at h
    · simp at h
  · unfold compApp at h
    split at h
    · split at h <;> simp at h
    · simp at h
  · unfold compCopy at h
    split at h
    · split at h
      · split at h <;> simp at h
      · simp at h
    · simp at h
  · rename_i f' as ats
    unfold compCall at h
    split at h
    · rename_i fn os h1 h2
      split at h
      · rename_i hh
        simp only [Option.some.injEq] at h
        split at h
        · simp only [CK.callP.injEq] at h
          obtain ⟨rfl, rfl⟩ := h
          exact ⟨as, ats, fn, rfl, h1, hh.1, hh.2, mapM_opdTo _ _ h2⟩
        · cases h
      · simp at h
    · simp at h
  · unfold compCallC at h
    split at h <;> simp at h
  · simp at h
  · split at h <;> simp at h
  · simp at h
  · split at h
    · split at h
      · unfold allocK at h; split at h <;> simp at h
      · simp at h
    · simp at h
  · simp only [Option.map_eq_some_iff] at h
    obtain ⟨e, _, h⟩ := h
    simp at h
theorem callC_inv {o : Oper} {g : Opd} {args : List Opd} (h : compK P o.op = some (.callC g args)) :
    ∃ as ats, o.op = .call { callee := .value g.to, args := as, argTypes := ats } ∧ args.map Opd.to = as.toList := by
  generalize hop : o.op = op at h
  unfold compK at h
  split at h
  · split at h <;> simp at h
  · unfold compLit at h
    split at h
    · split at h <;> simp at h
    · simp at h
  · unfold compApp at h
    split at h
    · split at h <;> simp at h
    · simp at h
  · unfold compCopy at h
    split at h
    · split at h
      · split at h <;> simp at h
      · simp at h
    · simp at h
  · unfold compCall at h
    split at h
    · split at h
      · simp only [Option.some.injEq] at h
        split at h <;> simp at h
      · simp at h
    · simp at h
  · rename_i s as ats
    unfold compCallC at h
    split at h
    · rename_i os h2
      simp only [Option.some.injEq, CK.callC.injEq] at h
      obtain ⟨rfl, rfl⟩ := h
      exact ⟨as, ats, rfl, mapM_opdTo _ _ h2⟩
    · simp at h
  · simp at h
  · split at h <;> simp at h
  · simp at h
  · split at h
    · split at h
      · unfold allocK at h; split at h <;> simp at h
      · simp at h
    · simp at h
  · simp only [Option.map_eq_some_iff] at h
    obtain ⟨e, _, h⟩ := h
    simp at h
theorem mkMap_inv {o : Oper} (h : compK P o.op = some .mkMap) : ∃ t, o.op = .makeMap t none := by
  generalize hop : o.op = op at h
  unfold compK at h
  split at h
  · split at h <;> simp at h
  · unfold compLit at h
    split at h
    · split at h <;> simp at h
    · simp at h
  · unfold compApp at h
    split at h
    · split at h <;> simp at h
    · simp at h
  · unfold compCopy at h
    split at h
    · split at h
      · split at h <;> simp at h
      · simp at h
    · simp at h
  · unfold compCall at h
    split at h
    · split at h
      · simp only [Option.some.injEq] at h
        split at h <;> simp at h
      · simp at h
    · simp at h
  · unfold compCallC at h
    split at h <;> simp at h
  · exact ⟨_, rfl⟩
  · split at h <;> simp at h
  · simp at h
  · split at h
    · split at h
      · unfold allocK at h; split at h <;> simp at h
      · simp at h
    · simp at h
  · simp only [Option.map_eq_some_iff] at h
    obtain ⟨e, _, h⟩ := h
    simp at h
theorem call_sound (hn : n ≤ 1000) {o : Oper} {f : FuncId} {args : List Opd} {l : Option Nat} (hc : compK P o.op = some (.call f args)) (hd : ∀ d, o.dst = some d → d < n) (h : callS P f o.dst l st K (evs st args)) : AOp P n o st K := by
  obtain ⟨as, ats, fn, h1, h2, h3, h4, h5⟩ := call_inv hc
  cases he : evs st args with
  | none => rw [he] at h; exact h.elim
  | some xs =>
    rw [he] at h
    obtain ⟨hnt, h⟩ := h
    cases l with
    | none => exact (AOp_call (b := false) h1 h2 h3 h4 hd hn h5 he hnt h).op
    | some i =>
      simp only at h
      unfold lendA at h
      split at h
      · rename_i q hq
        unfold lendN at h
        split at h
        · rename_i x z hx hz
          obtain ⟨hm, hcall⟩ := h
          obtain ⟨x', hx', hz'⟩ := node_get hz
          rw [hx] at hx'
          obtain rfl := Option.some.inj hx'
          cases hrf : rfOf st q with
          | nil =>
            rw [hrf] at hcall
            exact AOp_callL h1 h2 h3 h4 hd hn h5 he hnt (fun w F env a hr => by
              obtain ⟨B, o, L, hL⟩ := lend_node hr hx hz' hm
              exact ⟨_, _, hL⟩) hcall
          | cons e rf =>
            rw [hrf] at hcall
            obtain ⟨r, path, j⟩ := q
            cases path with
            | cons a p => simp [rfOf] at hrf
            | nil =>
              simp only [rfOf] at hrf
              simp only [lendR] at hcall
              rw [← hrf] at hcall
              exact AOp_callR h1 h2 h3 h4 hd hn h5 he hnt hx (hm rfl) hcall
        · exact h.elim
      · rename_i q es off len hq
        unfold lendS at h
        split at h
        · rename_i x es' ys hx hcell
          obtain ⟨rfl, h⟩ := h
          split at h
          · rename_i hvb
            obtain ⟨hj, hone, hcall⟩ := h
            have hxe : x = .own es' ys := by
              simp only [cellAt, hx, Option.bind_some, AV.cellIn, hvb.2, AV.sub, AV.cells_one hone, hj, List.getElem?_cons_zero, Option.some.injEq] at hcell
              exact hcell
            subst hxe
            exact AOp_callL h1 h2 h3 h4 hd hn h5 he hnt (fun w F env a hr => lend_listV hr hx hvb.1) hcall
          · rename_i hvb
            have hc2 := hcell
            simp only [cellAt, hx, Option.bind_some, AV.cellIn] at hc2
            cases hz : x.sub q.path with
            | none => rw [hz] at hc2; simp at hc2
            | some z =>
              rw [hz, Option.bind_some] at hc2
              exact AOp_callL h1 h2 h3 h4 hd hn h5 he hnt (fun w F env a hr => lend_listM hr hx hz hc2 (fun e => by
                rcases Nat.lt_or_ge q.r VB with h6 | h6
                · exact h6
                · exact absurd ⟨h6, e⟩ hvb)) h
        · exact h.elim
      · unfold lendM at h
        split at h
        · rename_i r x hf
          exact AOp_callL h1 h2 h3 h4 hd hn h5 he hnt (fun w F env a hr => lend_ext hr h.2.1 h.1) h.2.2
        · exact h.elim
      · exact h.elim
theorem callP_sound (hn : n ≤ 1000) {o : Oper} {f : FuncId} {args : List Opd} (hc : compK P o.op = some (.callP f args)) (hd : ∀ d, o.dst = some d → d < n) (h : callS P f o.dst none st K (evs st args)) : AOpC true P n o st K := by
  obtain ⟨as, ats, fn, h1, h2, h3, h4, h5⟩ := callP_inv hc
  cases he : evs st args with
  | none => rw [he] at h; exact h.elim
  | some xs =>
    rw [he] at h
    obtain ⟨hnt, h⟩ := h
    exact AOp_call h1 h2 h3 h4 hd hn h5 he hnt h
theorem callC_sound (hn : n ≤ 1000) {o : Oper} {g : Opd} {args : List Opd} (hc : compK P o.op = some (.callC g args)) (hd : ∀ d, o.dst = some d → d < n) (h : callCS P o.dst st K (st.ev g) (evs st args)) : AOpC true P n o st K := by
  obtain ⟨as, ats, h1, h5⟩ := callC_inv hc
  unfold callCS at h
  split at h
  · rename_i f caps xs hg he
    obtain ⟨hnt, hcap, hfn, hcall⟩ := h
    unfold fnGood at hfn
    split at hfn
    · rename_i fn hf
      simp only [Bool.and_eq_true, Bool.not_eq_true'] at hfn
      exact AOp_callC h1 hg hf hfn.1 hfn.2 hd hn h5 he hnt hcap hcall
    · simp at hfn
  · exact h.elim
end
end Go.Proofs.YthlehngbadianaaDoor.Ow
