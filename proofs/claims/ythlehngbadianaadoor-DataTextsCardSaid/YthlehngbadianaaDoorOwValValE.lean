/- Operations that compute a value which owns nothing: what they are, what they give. -/
import Derived.Test.YthlehngbadianaaDoorOwStateState2
import Derived.Laws.Cells
import Derived.Laws.Tables
import Derived.DeepKeys
set_option linter.unusedVariables false
set_option linter.unusedSimpArgs false
set_option linter.unnecessarySimpa false
namespace Go.Proofs.YthlehngbadianaaDoor.Ow
open Go Go.RowKit
inductive VE where
  | mv (x : Opd)
  | pick (c a b : Opd)
  | bin (op : BinOp) (x y : Opd)
  | un (op : UnOp) (x : Opd)
  | cvi (k : IntKind) (x : Opd)
  | fa (x : Opd) (off : Nat)
  | ia (x i : Opd) (es : Nat)
  | iaa (x i : Opd) (n es : Nat)
  | is (x i : Opd)
  | ld (x : Opd) (n : Option Nat)
  | ss (x : Opd) (lo hi : Option Opd)
  | sl (x : Opd) (lo hi mx : Option Opd) (es : Nat)
  | sla (x : Opd) (lo hi mx : Option Opd) (n es : Nat)
  | lns (x : Opd)
  | lnl (x : Opd) (es : Nat)
  | cst (v : Value)
  | ext (x : Opd) (i : Nat)
  | fv (x : Opd) (off : Nat) (n : Option Nat)
  | nc (x : Opd)
  | fnv (f : FuncId) (caps : List Opd)
  | eqb (ng : Bool) (x y : Opd)
  | eqp (ng sz : Bool) (x y : Opd)
  | eqs (ng : Bool) (x y : Opd)
  | eqa (ng : Bool) (ks : List Nat) (x y : Opd)
  | mn (x y : Opd)
  | mx (x y : Opd)
  | bld (z : List Value) (ps : List (Nat × Nat × Opd))
  | b2s (x : Opd)
  | ix (x i : Opd) (len es : Nat) (m : Option Nat)
/-! The pure part: on plain values. -/
def intBin (op : BinOp) (k : IntKind) (a b : Int) : Option Value :=
  match op with
  | .add => some (.int k (k.wrap (a + b)))
  | .sub => some (.int k (k.wrap (a - b)))
  | .mul => some (.int k (k.wrap (a * b)))
  | .quo => if b = 0 then none else some (.int k (k.wrap (a.tdiv b)))
  | .rem => if b = 0 then none else some (.int k (a.tmod b))
  | .and => some (.int k (k.wrap (BitVec.ofInt k.bits a &&& BitVec.ofInt k.bits b).toNat))
  | .or => some (.int k (k.wrap (BitVec.ofInt k.bits a ||| BitVec.ofInt k.bits b).toNat))
  | .xor => some (.int k (k.wrap (BitVec.ofInt k.bits a ^^^ BitVec.ofInt k.bits b).toNat))
  | .andNot => some (.int k (k.wrap (BitVec.ofInt k.bits a &&& ~~~ BitVec.ofInt k.bits b).toNat))
  | .eql => some (.bool (a == b))
  | .neq => some (.bool (a != b))
  | .lss => some (.bool (decide (a < b)))
  | .leq => some (.bool (decide (a ≤ b)))
  | .gtr => some (.bool (decide (a > b)))
  | .geq => some (.bool (decide (a ≥ b)))
  | .shl => none
  | .shr => none
def intShift (op : BinOp) (k : IntKind) (a b : Int) : Option Value :=
  if b < 0 then none else
  match op with
  | .shl => some (.int k (k.wrap (a * 2 ^ (min b.toNat k.bits))))
  | .shr => some (.int k (a.fdiv (2 ^ (min b.toNat k.bits))))
  | _ => none
def strBin (op : BinOp) (a b : ByteArray) : Option Value :=
  match op with
  | .add => if ((a.size + b.size : Nat) : Int) > IntKind.i64.max then none else some (.string (a ++ b))
  | .eql => some (.bool (a.toList == b.toList))
  | .neq => some (.bool (!(a.toList == b.toList)))
  | .lss => some (.bool (Op.bytesLess a.toList b.toList))
  | .leq => some (.bool (Op.bytesLess a.toList b.toList || a.toList == b.toList))
  | .gtr => some (.bool (!(Op.bytesLess a.toList b.toList || a.toList == b.toList)))
  | .geq => some (.bool (!Op.bytesLess a.toList b.toList))
  | _ => none
def binV (op : BinOp) : Value → Value → Option Value
  | .int k a, .int k' b =>
    match op with
    | .shl => intShift .shl k a b
    | .shr => intShift .shr k a b
    | op => if k = k' then intBin op k a b else none
  | .string a, .string b => strBin op a b
  | _, _ => none
def unV (op : UnOp) : Value → Option Value
  | .int k n =>
    match op with
    | .neg => some (.int k (k.wrap (0 - n)))
    | .xor => some (.int k (k.wrap (BitVec.ofInt k.bits (if k.signed then -1 else k.max) ^^^ BitVec.ofInt k.bits n).toNat))
    | _ => none
  | .bool b => match op with
    | .not => some (.bool (!b))
    | _ => none
  | _ => none
theorem run_binV {P : Program} {w : World} {op : BinOp} {t : TypeId} {x y v : Value} (h : binV op x y = some v) : (binOp op t x y).run P w = .ok v w := by
  cases x <;> cases y <;> simp only [binV] at h
  case int.int k a k' b =>
    cases op <;> simp only [intShift, intBin] at h
    case shl =>
      split at h
      · simp at h
      · rename_i hb
        simp only [Option.some.injEq] at h
        subst h
        simp only [binOp, Op.shift, hb, if_false, Sem.run_pure]
    case shr =>
      split at h
      · simp at h
      · rename_i hb
        simp only [Option.some.injEq] at h
        subst h
        simp only [binOp, Op.shift, hb, if_false, Sem.run_pure]
    all_goals
      split at h
      · rename_i hk
        subst hk
        first
          | (simp only [Option.some.injEq] at h; subst h; simp [binOp, Op.intArith, Op.intBits, Op.intCmp]; done)
          | (split at h <;> simp_all [binOp, Op.intDiv]; done)
      · simp at h
  case string.string a b =>
    cases op <;> simp only [strBin] at h
    case add => split at h <;> simp_all [binOp, Op.stringOp]
    all_goals first
      | (simp only [Option.some.injEq] at h; subst h; simp [binOp, Op.stringOp]; done)
      | simp at h
  all_goals simp at h
theorem run_unV {P : Program} {w : World} {op : UnOp} {x v : Value} (h : unV op x = some v) : (Op.unary op x).run P w = .ok v w := by
  cases x <;> cases op <;> simp only [unV, Option.some.injEq] at h <;> first
    | (subst h; simp [Op.unary, Op.intArith, Op.intBits]; done)
    | simp at h
theorem run_eqGuard_plain {P : Program} {w : World} {op : BinOp} {t : TypeId} {x y : Operand} {a b : Value} (ha : a.oneCell' = true) (hn : a ≠ .nilIface) : (eqGuard op t x y a b).run P w = .ok () w := by
  unfold eqGuard
  cases a <;> simp_all [Value.oneCell'] <;> (split <;> rfl)
/-! What is given. -/
def okBounds (n : Nat) (lo hi mx : Option Int) : Option (Nat × Nat × Nat) :=
  let m := mx.getD n
  let h := hi.getD n
  let l := lo.getD 0
  if 0 ≤ l ∧ l ≤ h ∧ h ≤ m ∧ m ≤ n then some (l.toNat, h.toNat, m.toNat) else none
def St.int (st : St) (x : Opd) : Option Int :=
  match st.ev x with
  | some (.v (.int _ n)) => some n
  | _ => none
def St.int? (st : St) : Option Opd → Option (Option Int)
  | none => some none
  | some x => (st.int x).map some
def St.str (st : St) (x : Opd) : Option ByteArray :=
  match st.ev x with
  | some (.v (.string s)) => some s
  | _ => none
def isNilSl : Value → Bool
  | .slice none 0 0 => true
  | _ => false
theorem isNilSl_eq {y : Value} (h : isNilSl y = true) : y = .slice none 0 0 := by
  unfold isNilSl at h
  split at h
  · rfl
  · simp at h
def isNilP : Value → Bool
  | .pointer none => true
  | _ => false
/-- The node that a reference's path leads to. -/
def St.node (st : St) (p : Pl) : Option AV := (st.rt.get p.r).bind fun x => x.sub p.path
def takeOwn (es off len : Nat) : Option AV → Option (List AV)
  | some (.own es' xs) => if es' = es ∧ off + len ≤ xs.length then some ((xs.drop off).take len) else none
  | _ => none
def takeArr (j len : Nat) : Option AV → Option (List AV)
  | some z => if j + len ≤ z.cells.length then some ((z.cells.drop j).take len) else none
  | none => none
/-- The elements that a slice shows, es cells each. -/
def rdS (es : Nat) (st : St) : AV → Option (List AV)
  | .v u => if isNilSl u then some [] else none
  | .lst es' xs => if es' = es then some xs else none
  | .sl p es' off len => if es' = es then takeOwn es off len (cellAt st.rt p.r p.path p.j) else none
  | .sa p es' len cap => if es' = 1 ∧ es = 1 then takeArr p.j len (st.node p) else none
  | _ => none
def rfGet : List (Nat × Nat × AV) → Nat → Nat → Option AV
  | [], _, _ => none
  | (r, j, x) :: l, r', j' => if r = r' ∧ j = j' then some x else rfGet l r' j'
/-- A cell, as it is when it is loaded. -/
def ld1 (rf : List (Nat × Nat × AV)) (p : Pl) : AV → AV
  | .own es xs => .sl p es 0 xs.length
  | .obj _ => .ref ⟨p.r, p.path ++ [(p.j, 0)], 0⟩
  | .ext _ => .junk
  | .junk => match p.path with
    | [] => (rfGet rf p.r p.j).getD .junk
    | _ :: _ => .junk
  | c => c
def ldL (rf : List (Nat × Nat × AV)) (r : Nat) (path : List Hop) : Nat → List AV → List AV
  | _, [] => []
  | j, c :: cs => ld1 rf ⟨r, path, j⟩ c :: ldL rf r path (j + 1) cs
def ldN (rf : List (Nat × Nat × AV)) (p : Pl) (m : Nat) : Option AV → Option AV
  | some z => if p.j + m ≤ z.cells.length then some (.agg (ldL rf p.r p.path p.j ((z.cells.drop p.j).take m))) else none
  | none => none
def St.load (st : St) (m : Option Nat) : AV → Option AV
  | .ref p => match m with
    | none => (cellAt st.rt p.r p.path p.j).map (ld1 st.rf p)
    | some m => ldN st.rf p m (st.node p)
  | .fptr y j => match m with
    | none => y.cells[j]?
    | some m => if j + m ≤ y.cells.length then some (.agg ((y.cells.drop j).take m)) else none
  | _ => none
/-- A pointer's address, so many cells on. -/
def pOff (n : Nat) : AV → Option AV
  | .ref p => some (.ref { p with j := p.j + n })
  | .fptr y j => if j + n < y.cells.length then some (.fptr y (j + n)) else none
  | _ => none
/-- An element's address. -/
def elemP (i : Nat) : AV → Option AV
  | .sl p _ off _ => some (.ref ⟨p.r, p.path ++ [(p.j, off + i)], 0⟩)
  | .lst _ xs => (xs[i]?).map fun x => .fptr x 0
  | .sa p es _ _ => some (.ref { p with j := p.j + i * es })
  | _ => none
def slOff (l n : Nat) : AV → AV
  | .sl p es off _ => .sl p es (off + l) n
  | .lst es xs => .lst es ((xs.drop l).take n)
  | .sa _ _ _ _ => .junk
  | x => x
def arrSl (es l n c : Nat) : AV → Option AV
  | .ref p => if es = 0 then none else some (.sa { p with j := p.j + l * es } es n c)
  | _ => none
def arrLen (st : St) : AV → Option Nat
  | .ref p => (st.node p).map fun z => z.cells.length - p.j
  | .fptr y j => some (y.cells.length - j)
  | _ => none
/-- Is a pointer nil? -/
def ptrNil : AV → Option Bool
  | .v y => if isNilP y = true then some true else none
  | .ref _ => some false
  | .fptr _ _ => some false
  | _ => none
/-- Two references to one place? -/
def sameRef : AV → AV → Bool
  | .ref p, .ref q => decide (p.r = q.r) && (decide (p.path = q.path) && decide (p.j = q.j))
  | _, _ => false
/-- Is a slice nil? -/
def slNil : AV → Option Bool
  | .v y => if isNilSl y = true then some true else none
  | .lst _ (_ :: _) => some false
  | .sl _ _ _ (_ + 1) => some false
  | .sa _ (_ + 1) _ _ => some false
  | _ => none
def eqNil : Bool → Option Bool → Option Bool → Option AV
  | ng, some true, some b => some (.v (.bool (b != ng)))
  | ng, some false, some true => some (.v (.bool ng))
  | _, _, _ => none
/-- Plain values, one by one the same? -/
def eq1 : AV → AV → Option Bool
  | .v (.int k a), .v (.int k' b) => if k = k' then some (a == b) else none
  | .v (.bool a), .v (.bool b) => some (a == b)
  | .v (.string a), .v (.string b) => some (a.toList == b.toList)
  | _, _ => none
def eqL : List AV → List AV → Option Bool
  | [], [] => some true
  | a :: as, b :: bs => match eq1 a b, eqL as bs with
    | some x, some y => some (x && y)
    | _, _ => none
  | _, _ => none
/-- Are cells of these kinds? -/
def fit1 : Nat → AV → Bool
  | 0, .v (.bool _) => true
  | 1, .v (.int _ _) => true
  | 2, .v (.string _) => true
  | _, _ => false
def fitL : List Nat → List AV → Bool
  | [], [] => true
  | k :: ks, c :: cs => fit1 k c && fitL ks cs
  | _, _ => false
def ntup : AV → Bool
  | .tup _ => false
  | _ => true
def splice {α : Type} (cs : List α) (off : Nat) (ys : List α) : List α := cs.take off ++ (ys ++ cs.drop (off + ys.length))
def fillA (st : St) : List AV → List (Nat × Nat × Opd) → Option (List AV)
  | cs, [] => some cs
  | cs, (off, sz, x) :: r => match st.ev x with
    | some y => if ntup y = true ∧ y.cells.length = sz ∧ off + sz ≤ cs.length then fillA st (splice cs off y.cells) r else none
    | none => none
/-- Bytes, as numbers. -/
def byteV : AV → Option UInt8
  | .v (.int .u8 n) => if 0 ≤ n ∧ n < 256 then some (UInt8.ofNat n.toNat) else none
  | _ => none
/-- Part of a value's cells. -/
def partV (cs : List AV) (off : Nat) : Option Nat → Option AV
  | none => cs[off]?
  | some m => if off + m ≤ cs.length then some (.agg ((cs.drop off).take m)) else none
def veval (e : VE) (st : St) : Option AV :=
  match e with
  | .mv x => st.ev x
  | .pick c a b =>
    match st.ev c with
    | some (.v (.bool t)) => if t then st.ev a else st.ev b
    | _ => none
  | .bin op x y =>
    match st.ev x, st.ev y with
    | some (.v a), some (.v b) => (binV op a b).map .v
    | _, _ => none
  | .un op x =>
    match st.ev x with
    | some (.v a) => (unV op a).map .v
    | _ => none
  | .cvi k x => (st.int x).map fun n => .v (.int k (k.wrap n))
  | .fa x off => (st.ev x).bind (pOff off)
  | .ia x i es =>
    match st.ev x, st.int i with
    | some y, some n => match rdS es st y with
      | some xs => if 0 ≤ n ∧ n < xs.length then elemP n.toNat y else none
      | none => none
    | _, _ => none
  | .iaa x i len es =>
    match st.ev x, st.int i with
    | some y, some n => if 0 ≤ n ∧ n < len then pOff (n.toNat * es) y else none
    | _, _ => none
  | .is x i =>
    match st.str x, st.int i with
    | some s, some n => if 0 ≤ n ∧ n < s.size then some (.v (.int .u8 ((s[n.toNat]?).getD 0).toNat)) else none
    | _, _ => none
  | .ld x n => (st.ev x).bind (st.load n)
  | .ss x lo hi =>
    match st.str x, st.int? lo, st.int? hi with
    | some s, some l, some h => (okBounds s.size l h none).map fun b => .v (.string (s.extract b.1 b.2.1))
    | _, _, _ => none
  | .sl x lo hi mx es =>
    match st.ev x, st.int? lo, st.int? hi, st.int? mx with
    | some y, some l, some h, some m => match rdS es st y with
      | some xs => (okBounds xs.length l h m).map fun b => slOff b.1 (b.2.1 - b.1) y
      | none => none
    | _, _, _, _ => none
  | .sla x lo hi mx n es =>
    match st.ev x, st.int? lo, st.int? hi, st.int? mx with
    | some y, some l, some h, some m => match arrLen st y with
      | some k => if n * es ≤ k then (okBounds n l h m).bind fun b => arrSl es b.1 (b.2.1 - b.1) (b.2.2 - b.1) y else none
      | none => none
    | _, _, _, _ => none
  | .lns x => (st.str x).map fun s => .v (.int .i64 s.size)
  | .lnl x es =>
    match st.ev x with
    | some y => (rdS es st y).map fun r => .v (.int .i64 r.length)
    | none => none
  | .cst v => if v.oneCell' then some (.v v) else none
  | .ext x i =>
    match st.ev x with
    | some (.tup xs) => xs[i]?
    | _ => none
  | .fv x off n =>
    match st.ev x with
    | some (.agg cs) => match n with
      | none => cs[off]?
      | some m => if off + m ≤ cs.length then some (.agg ((cs.drop off).take m)) else none
    | _ => none
  | .nc x =>
    match st.ev x with
    | some y => if ptrNil y = some false then some y else none
    | none => none
  | .fnv f caps => (caps.mapM st.ev).bind fun cs => if cs.all (fun c => AV.one c && !(match c with | .fn _ _ => true | _ => false)) then some (.fn f cs) else none
  | .eqb ng x y =>
    match st.ev x, st.ev y with
    | some (.v (.bool a)), some (.v (.bool b)) => some (.v (.bool ((a == b) != ng)))
    | _, _ => none
  | .eqp ng sz x y =>
    match st.ev x, st.ev y with
    | some a, some b => if sz = true ∧ sameRef a b = true then some (.v (.bool !ng)) else eqNil ng (ptrNil a) (ptrNil b)
    | _, _ => none
  | .eqs ng x y =>
    match st.ev x, st.ev y with
    | some a, some b => eqNil ng (slNil a) (slNil b)
    | _, _ => none
  | .eqa ng ks x y =>
    match st.ev x, st.ev y with
    | some (.agg as), some (.agg bs) => if fitL ks as = true then (eqL as bs).map fun b => .v (.bool (b != ng)) else none
    | _, _ => none
  | .mn x y =>
    match st.ev x, st.ev y with
    | some (.v (.int k a)), some (.v (.int _ b)) => some (.v (.int k (if b < a then b else a)))
    | _, _ => none
  | .mx x y =>
    match st.ev x, st.ev y with
    | some (.v (.int k a)), some (.v (.int _ b)) => some (.v (.int k (if b > a then b else a)))
    | _, _ => none
  | .bld z ps => (fillA st (z.map .v) ps).map .agg
  | .b2s x =>
    match st.ev x with
    | some y => match rdS 1 st y with
      | some xs => (xs.mapM byteV).map fun l => .v (.string ⟨l.toArray⟩)
      | none => none
    | none => none
  | .ix x i len es m =>
    match st.ev x, st.int i with
    | some (.agg cs), some k => if 0 ≤ k ∧ k < len then partV cs (k.toNat * es) m else none
    | _, _ => none
end Go.Proofs.YthlehngbadianaaDoor.Ow
namespace Go.Proofs.YthlehngbadianaaDoor.Ow
open Go Go.RowKit
def eqF (P : Program) (g : TypeId → Option (List Nat)) : List Field → Nat → Option (List Nat)
  | [], off => some []
  | f :: fs, off => if f.name ≠ "_" ∧ f.offset = off then match g f.type with
      | some ks => if P.cellsOf f.type = ks.length ∧ (P.info? f.type).isSome = true then (eqF P g fs (off + ks.length)).map (ks ++ ·) else none
      | none => none
    else none
/-- A type's cells' kinds, if they are compared one by one. -/
def eqN (P : Program) : Nat → TypeId → Option (List Nat)
  | 0, _ => none
  | d + 1, t => match P.underlying t with
    | some .bool => some [0]
    | some (.int _) => some [1]
    | some .string => some [2]
    | some (.array n e) => match eqN P d e with
      | some ks => if P.cellsOf e = ks.length ∧ (P.info? e).isSome = true then some (List.replicate n ks).flatten else none
      | none => none
    | some (.struct fs) => if P.stoodInHeld t = false then eqF P (eqN P d) fs.toList 0 else none
    | _ => none
def isWide (P : Program) (t : TypeId) : Bool :=
  match P.underlying t with
  | some (.array _ _) => true
  | some (.struct _) => true
  | _ => false
def mkF (P : Program) (t : TypeId) (cs : List Value) : Value := if isWide P t = true then .agg cs.toArray else cs.headD undef
def eqLV (as bs : List Value) : Option Bool := eqL (as.map .v) (bs.map .v)
theorem eqLV_append : ∀ (a1 b1 a2 b2 : List Value) (r : Bool), a1.length = b1.length → eqLV (a1 ++ a2) (b1 ++ b2) = some r → ∃ r1 r2, eqLV a1 b1 = some r1 ∧ eqLV a2 b2 = some r2 ∧ r = (r1 && r2)
  | [], [], a2, b2, r, _, h => ⟨true, r, rfl, h, rfl⟩
  | [], b :: b1, a2, b2, r, hl, h => by simp at hl
  | a :: a1, [], a2, b2, r, hl, h => by simp at hl
  | a :: a1, b :: b1, a2, b2, r, hl, h => by
    simp only [eqLV, List.cons_append, List.map_cons, eqL] at h
    split at h
    · rename_i x y h1 h2
      obtain ⟨r1, r2, k1, k2, k3⟩ := eqLV_append a1 b1 a2 b2 y (by simpa using hl) (by simpa only [eqLV] using h2)
      obtain rfl := Option.some.inj h
      refine ⟨x && r1, r2, ?_, k2, by rw [k3, Bool.and_assoc]⟩
      simp only [eqLV, List.map_cons, eqL, h1]
      simp only [eqLV] at k1
      rw [k1]
    · simp at h
def fitV (ks : List Nat) (as : List Value) : Bool := fitL ks (as.map .v)
theorem fitL_length : ∀ (ks : List Nat) (as : List AV), fitL ks as = true → as.length = ks.length
  | [], [], _ => rfl
  | [], a :: as, h => by simp [fitL] at h
  | k :: ks, [], h => by simp [fitL] at h
  | k :: ks, a :: as, h => by
    simp only [fitL, Bool.and_eq_true] at h
    simp [fitL_length ks as h.2]
theorem fitV_length {ks : List Nat} {as : List Value} (h : fitV ks as = true) : as.length = ks.length := by simpa using fitL_length _ _ h
theorem fitV_append : ∀ (k1 k2 : List Nat) (a1 a2 : List Value), k1.length = a1.length → fitV (k1 ++ k2) (a1 ++ a2) = true → fitV k1 a1 = true ∧ fitV k2 a2 = true
  | [], k2, [], a2, _, h => ⟨rfl, h⟩
  | [], k2, a :: a1, a2, hl, h => by simp at hl
  | k :: k1, k2, [], a2, hl, h => by simp at hl
  | k :: k1, k2, a :: a1, a2, hl, h => by
    simp only [fitV, List.cons_append, List.map_cons, fitL, Bool.and_eq_true] at h ⊢
    obtain ⟨g1, g2⟩ := fitV_append k1 k2 a1 a2 (by simpa using hl) h.2
    exact ⟨⟨h.1, g1⟩, g2⟩
theorem eqLV_length : ∀ (as bs : List Value) (r : Bool), eqLV as bs = some r → as.length = bs.length
  | [], [], _, _ => rfl
  | [], b :: bs, _, h => by simp [eqLV, eqL] at h
  | a :: as, [], _, h => by simp [eqLV, eqL] at h
  | a :: as, b :: bs, r, h => by
    simp only [eqLV, List.map_cons, eqL] at h
    split at h
    · rename_i x y h1 h2
      have := eqLV_length as bs y h2
      simp [this]
    · simp at h
section
variable {P : Program}
theorem eqN_one {d : Nat} {t : TypeId} {ks : List Nat} (h : eqN P d t = some ks) (hw : isWide P t = false) : ks.length = 1 := by
  cases d with
  | zero => simp [eqN] at h
  | succ d =>
    unfold eqN at h
    unfold isWide at hw
    split at h <;> simp_all
    all_goals (subst h; rfl)
theorem run_isAgg_of {w : World} {t : TypeId} {d : Nat} {ks : List Nat} (h : eqN P d t = some ks) : (isAgg t).run P w = .ok (isWide P t) w := by
  cases d with
  | zero => simp [eqN] at h
  | succ d =>
    unfold eqN at h
    unfold isWide
    cases hu : P.underlying t with
    | none => rw [hu] at h; simp at h
    | some kd =>
      rw [hu] at h
      cases kd <;> first | (simp at h; done) | simp [isAgg, run_underlying hu]
theorem run_part_flat {w : World} {e : TypeId} {d off : Nat} {ks : List Nat} {xs : Array Value} (hn : eqN P d e = some ks) (hc : P.cellsOf e = ks.length) (hi : (P.info? e).isSome = true) (hl : off + ks.length ≤ xs.size) :
    (part e xs off).run P w = .ok (mkF P e ((xs.toList.drop off).take ks.length)) w := by
  obtain ⟨i, hi⟩ := Option.isSome_iff_exists.1 hi
  unfold part
  simp only [Sem.run_bind, run_isAgg_of hn, Result.andThen_ok]
  unfold mkF
  cases hw : isWide P e with
  | true =>
    simp only [if_true, Sem.run_bind, run_sizeOf w hi, Result.andThen_ok, Sem.run_pure, hc]
    congr 2
    apply Array.ext'
    simp [Array.toList_extract, List.extract]
  | false =>
    have hk := eqN_one hn hw
    rw [hk] at hl ⊢
    have : xs[off]? = some xs[off] := Array.getElem?_eq_getElem (by omega)
    simp only [Bool.false_eq_true, if_false, this, Sem.run_pure]
    congr 1
    rw [List.drop_eq_getElem_cons (by simp; omega)]
    simp
def EqS (P : Program) (D : Nat) (e : TypeId) (ks : List Nat) : Prop :=
  ∀ (w : World) (as bs : List Value) (r : Bool), fitV ks as = true → eqLV as bs = some r → (Op.equalIn D e (mkF P e as) (mkF P e bs)).run P w = .ok r w
theorem chunk {α : Type} (l : List α) (off k : Nat) : l.drop off = (l.drop off).take k ++ l.drop (off + k) := by
  rw [← List.drop_drop]; exact (List.take_append_drop k _).symm
theorem run_eqItems_flat {w : World} {D d : Nat} {ks : List Nat} {e : TypeId} (hn : eqN P d e = some ks) (hc : P.cellsOf e = ks.length) (hi : (P.info? e).isSome = true) (IH : EqS P D e ks) (xs ys : Array Value) (hxy : xs.size = ys.size) : ∀ (m i : Nat) (r : Bool), i * ks.length ≤ xs.size →
    fitV (List.replicate m ks).flatten (xs.toList.drop (i * ks.length)) = true → eqLV (xs.toList.drop (i * ks.length)) (ys.toList.drop (i * ks.length)) = some r → (Op.eqItems D e (P.cellsOf e) xs ys (List.range' i m)).run P w = .ok r w
  | 0, i, r, hle, hf, h => by
    have h1 := fitV_length hf
    simp only [List.replicate_zero, List.flatten_nil, List.length_nil, List.length_drop, Array.length_toList] at h1
    rw [List.drop_eq_nil_of_le (by simp; omega), List.drop_eq_nil_of_le (by simp; omega)] at h
    simp only [eqLV, List.map_nil, eqL, Option.some.injEq] at h
    subst h
    simp [Op.eqItems]
  | m + 1, i, r, hle0, hf, h => by
    have hlen := fitV_length hf
    simp only [List.replicate_succ, List.flatten_cons, List.length_append, List.length_drop, Array.length_toList] at hlen
    rw [chunk xs.toList (i * ks.length) ks.length, chunk ys.toList (i * ks.length) ks.length] at h
    rw [chunk xs.toList (i * ks.length) ks.length, List.replicate_succ, List.flatten_cons] at hf
    have l1 : ((xs.toList.drop (i * ks.length)).take ks.length).length = ks.length := by simp; omega
    have l2 : ((ys.toList.drop (i * ks.length)).take ks.length).length = ks.length := by simp; omega
    obtain ⟨r1, r2, k1, k2, rfl⟩ := eqLV_append _ _ _ _ r (by rw [l1, l2]) h
    obtain ⟨f1, f2⟩ := fitV_append _ _ _ _ l1.symm hf
    simp only [List.range'_succ, Op.eqItems, Sem.run_bind, hc, run_part_flat (w := w) hn hc hi (show i * ks.length + ks.length ≤ xs.size by omega), run_part_flat (w := w) hn hc hi (show i * ks.length + ks.length ≤ ys.size by omega), Result.andThen_ok, IH w _ _ r1 f1 k1]
    cases r1 with
    | false => simp
    | true =>
      simp only [Bool.not_true, Bool.false_eq_true, if_false, Bool.true_and]
      have e1 : (i + 1) * ks.length = i * ks.length + ks.length := by rw [Nat.add_mul]; omega
      have := run_eqItems_flat (w := w) hn hc hi IH xs ys hxy m (i + 1) r2 (by omega) (by rw [e1]; exact f2) (by rw [e1]; exact k2)
      rw [hc] at this
      exact this
theorem run_eqFields_flat {w : World} {D d : Nat} (IH : ∀ t ks, eqN P d t = some ks → EqS P D t ks) (xs ys : Array Value) (hxy : xs.size = ys.size) : ∀ (fs : List Field) (off : Nat) (ks : List Nat) (r : Bool), eqF P (eqN P d) fs off = some ks → off ≤ xs.size →
    fitV ks (xs.toList.drop off) = true → eqLV (xs.toList.drop off) (ys.toList.drop off) = some r → (Op.eqFields D xs ys fs).run P w = .ok r w
  | [], off, ks, r, hf, hle, hft, h => by
    simp only [eqF, Option.some.injEq] at hf
    subst hf
    have h1 := fitV_length hft
    simp only [List.length_nil, List.length_drop, Array.length_toList] at h1
    rw [List.drop_eq_nil_of_le (by simp; omega), List.drop_eq_nil_of_le (by simp; omega)] at h
    simp only [eqLV, List.map_nil, eqL, Option.some.injEq] at h
    subst h
    simp [Op.eqFields]
  | f :: fs, off, ks, r, hf, hle, hft, h => by
    simp only [eqF] at hf
    split at hf
    · rename_i hh
      split at hf
      · rename_i kf hk
        split at hf
        · rename_i hci
          simp only [Option.map_eq_some_iff] at hf
          obtain ⟨kr, hkr, rfl⟩ := hf
          have hlen := fitV_length hft
          simp only [List.length_append, List.length_drop, Array.length_toList] at hlen
          rw [chunk xs.toList off kf.length, chunk ys.toList off kf.length] at h
          rw [chunk xs.toList off kf.length] at hft
          have l1 : ((xs.toList.drop off).take kf.length).length = kf.length := by simp; omega
          have l2 : ((ys.toList.drop off).take kf.length).length = kf.length := by simp; omega
          obtain ⟨r1, r2, k1, k2, rfl⟩ := eqLV_append _ _ _ _ r (by rw [l1, l2]) h
          obtain ⟨f1, f2⟩ := fitV_append _ _ _ _ l1.symm hft
          simp only [Op.eqFields, ne_eq, hh.1, not_false_eq_true, if_true, hh.2, Sem.run_bind, run_part_flat (w := w) hk hci.1 hci.2 (show off + kf.length ≤ xs.size by omega), run_part_flat (w := w) hk hci.1 hci.2 (show off + kf.length ≤ ys.size by omega), Result.andThen_ok, IH _ _ hk w _ _ r1 f1 k1]
          cases r1 with
          | false => simp
          | true =>
            simp only [Bool.not_true, Bool.false_eq_true, if_false, Bool.true_and]
            exact run_eqFields_flat IH xs ys hxy fs (off + kf.length) kr r2 hkr (by omega) f2 k2
        · simp at hf
      · simp at hf
    · simp at hf
theorem run_equalIn_flat (D : Nat) : ∀ (d : Nat) (t : TypeId) (ks : List Nat), eqN P d t = some ks → EqS P (D + d) t ks
  | 0, t, ks, h => by simp [eqN] at h
  | d + 1, t, ks, h => by
    intro w as bs r hf he
    have hab := eqLV_length _ _ _ he
    have hlen := fitV_length hf
    have one : ∀ k, ks = [k] → ∃ a b, as = [a] ∧ bs = [b] ∧ fit1 k (.v a) = true ∧ eq1 (.v a) (.v b) = some r := by
      rintro k rfl
      match as, bs, hlen, hab with
      | [a], [b], _, _ =>
        refine ⟨a, b, rfl, rfl, by simpa [fitV, fitL] using hf, ?_⟩
        simp only [eqLV, List.map_cons, List.map_nil, eqL] at he
        split at he
        · rename_i x y h1 h2
          rw [h1]; simp only [Option.some.injEq] at h2 he ⊢; subst h2; simpa using he
        · simp at he
    unfold eqN at h
    cases hu : P.underlying t with
    | none => rw [hu] at h; simp at h
    | some kd =>
      rw [hu] at h
      cases kd <;> first | (simp at h; done) | skip
      case bool =>
        obtain ⟨a, b, rfl, rfl, h1, h2⟩ := one 0 (Option.some.inj h).symm
        simp only [mkF, isWide, hu, Bool.false_eq_true, if_false, List.headD_cons]
        cases a <;> simp only [fit1, Bool.false_eq_true] at h1
        cases b <;> simp only [eq1] at h2 <;> first | (simp at h2; done) | skip
        obtain rfl := Option.some.inj h2
        rw [show D + (d + 1) = (D + d) + 1 from rfl]
        simp [Op.equalIn, run_underlying hu]
      case int q =>
        obtain ⟨a, b, rfl, rfl, h1, h2⟩ := one 1 (Option.some.inj h).symm
        simp only [mkF, isWide, hu, Bool.false_eq_true, if_false, List.headD_cons]
        cases a <;> simp only [fit1, Bool.false_eq_true] at h1
        cases b <;> simp only [eq1] at h2 <;> first | (simp at h2; done) | skip
        split at h2
        · rename_i hkk
          obtain rfl := Option.some.inj h2
          subst hkk
          rw [show D + (d + 1) = (D + d) + 1 from rfl]
          simp [Op.equalIn, run_underlying hu]
        · simp at h2
      case string =>
        obtain ⟨a, b, rfl, rfl, h1, h2⟩ := one 2 (Option.some.inj h).symm
        simp only [mkF, isWide, hu, Bool.false_eq_true, if_false, List.headD_cons]
        cases a <;> simp only [fit1, Bool.false_eq_true] at h1
        cases b <;> simp only [eq1] at h2 <;> first | (simp at h2; done) | skip
        obtain rfl := Option.some.inj h2
        rw [show D + (d + 1) = (D + d) + 1 from rfl]
        exact run_equalIn_string w (D + d) t _ _ hu
      case array n e =>
        simp only at h
        split at h
        · rename_i ke hk
          split at h
          · rename_i hci
            obtain rfl := Option.some.inj h
            obtain ⟨i, hi⟩ := Option.isSome_iff_exists.1 hci.2
            simp only [mkF, isWide, hu, if_true]
            rw [show D + (d + 1) = (D + d) + 1 from rfl, run_equalIn_array w (D + d) _ _ hu hi, List.range_eq_range']
            exact run_eqItems_flat hk hci.1 hci.2 (run_equalIn_flat D d e ke hk) _ _ (by simpa using hab) n 0 r (by simp) (by simpa using hf) (by simpa using he)
          · simp at h
        · simp at h
      case struct fs =>
        simp only at h
        split at h
        · rename_i hst
          have hfs : P.fieldsOf t = fs := by simp [Program.fieldsOf, hu]
          simp only [mkF, isWide, hu, if_true]
          rw [show D + (d + 1) = (D + d) + 1 from rfl, run_equalIn_struct w (D + d) t _ _ (by rw [hfs]; exact hu) hst, hfs]
          exact run_eqFields_flat (fun t ks ht => run_equalIn_flat D d t ks ht) _ _ (by simpa using hab) fs.toList 0 ks r h (by simp) (by simpa using hf) (by simpa using he)
        · simp at h
end
end Go.Proofs.YthlehngbadianaaDoor.Ow
