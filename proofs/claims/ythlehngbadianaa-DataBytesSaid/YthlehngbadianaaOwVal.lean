/- Operations that compute a value which owns nothing: what they are, what they give. -/
import Derived.Test.YthlehngbadianaaOwState2
import Derived.Laws.Cells
import Derived.Laws.Tables
set_option linter.unusedVariables false
set_option linter.unusedSimpArgs false
set_option linter.unnecessarySimpa false
namespace Go.Proofs.Ythlehngbadianaa.Ow
open Go Go.RowKit

inductive VE where
  | mv (x : Opd)
  | pick (c a b : Opd)
  | bin (op : BinOp) (x y : Opd)
  | un (op : UnOp) (x : Opd)
  | cvi (k : IntKind) (x : Opd)
  | fa (x : Opd) (off : Nat)
  | ia (x i : Opd) (es : Nat)
  | iaa (x i : Opd) (n es : Nat)
  | is (x i : Opd)
  | ld (x : Opd) (n : Option Nat)
  | ss (x : Opd) (lo hi : Option Opd)
  | sl (x : Opd) (lo hi mx : Option Opd) (es : Nat)
  | sla (x : Opd) (lo hi mx : Option Opd) (n es : Nat)
  | lns (x : Opd)
  | lnl (x : Opd) (es : Nat)
  | cst (v : Value)
  | ext (x : Opd) (i : Nat)
  | fv (x : Opd) (off : Nat) (n : Option Nat)
  | nc (x : Opd)
  | fnv (f : FuncId) (caps : List Opd)
  | eqb (ng : Bool) (x y : Opd)
  | eqp (ng sz : Bool) (x y : Opd)
  | eqs (ng : Bool) (x y : Opd)
  | eqa (ng : Bool) (ks : List Nat) (x y : Opd)
  | mn (x y : Opd)
  | mx (x y : Opd)
  | bld (z : List Value) (ps : List (Nat × Nat × Opd))
  | b2s (x : Opd)
  | ix (x i : Opd) (len es : Nat) (m : Option Nat)

/-! The pure part: on plain values. -/
def intBin (op : BinOp) (k : IntKind) (a b : Int) : Option Value :=
  match op with
  | .add => some (.int k (k.wrap (a + b)))
  | .sub => some (.int k (k.wrap (a - b)))
  | .mul => some (.int k (k.wrap (a * b)))
  | .quo => if b = 0 then none else some (.int k (k.wrap (a.tdiv b)))
  | .rem => if b = 0 then none else some (.int k (a.tmod b))
  | .and => some (.int k (k.wrap (BitVec.ofInt k.bits a &&& BitVec.ofInt k.bits b).toNat))
  | .or => some (.int k (k.wrap (BitVec.ofInt k.bits a ||| BitVec.ofInt k.bits b).toNat))
  | .xor => some (.int k (k.wrap (BitVec.ofInt k.bits a ^^^ BitVec.ofInt k.bits b).toNat))
  | .andNot => some (.int k (k.wrap (BitVec.ofInt k.bits a &&& ~~~ BitVec.ofInt k.bits b).toNat))
  | .eql => some (.bool (a == b))
  | .neq => some (.bool (a != b))
  | .lss => some (.bool (decide (a < b)))
  | .leq => some (.bool (decide (a ≤ b)))
  | .gtr => some (.bool (decide (a > b)))
  | .geq => some (.bool (decide (a ≥ b)))
  | .shl => none
  | .shr => none
def intShift (op : BinOp) (k : IntKind) (a b : Int) : Option Value :=
  if b < 0 then none else
  match op with
  | .shl => some (.int k (k.wrap (a * 2 ^ (min b.toNat k.bits))))
  | .shr => some (.int k (a.fdiv (2 ^ (min b.toNat k.bits))))
  | _ => none
def strBin (op : BinOp) (a b : ByteArray) : Option Value :=
  match op with
  | .add => if ((a.size + b.size : Nat) : Int) > IntKind.i64.max then none else some (.string (a ++ b))
  | .eql => some (.bool (a.toList == b.toList))
  | .neq => some (.bool (!(a.toList == b.toList)))
  | .lss => some (.bool (Op.bytesLess a.toList b.toList))
  | .leq => some (.bool (Op.bytesLess a.toList b.toList || a.toList == b.toList))
  | .gtr => some (.bool (!(Op.bytesLess a.toList b.toList || a.toList == b.toList)))
  | .geq => some (.bool (!Op.bytesLess a.toList b.toList))
  | _ => none
def binV (op : BinOp) : Value → Value → Option Value
  | .int k a, .int k' b =>
    match op with
    | .shl => intShift .shl k a b
    | .shr => intShift .shr k a b
    | op => if k = k' then intBin op k a b else none
  | .string a, .string b => strBin op a b
  | _, _ => none
def unV (op : UnOp) : Value → Option Value
  | .int k n =>
    match op with
    | .neg => some (.int k (k.wrap (0 - n)))
    | .xor => some (.int k (k.wrap (BitVec.ofInt k.bits (if k.signed then -1 else k.max) ^^^ BitVec.ofInt k.bits n).toNat))
    | _ => none
  | .bool b => match op with
    | .not => some (.bool (!b))
    | _ => none
  | _ => none

theorem run_binV {P : Program} {w : World} {op : BinOp} {t : TypeId} {x y v : Value} (h : binV op x y = some v) : (binOp op t x y).run P w = .ok v w := by
  cases x <;> cases y <;> simp only [binV] at h
  case int.int k a k' b =>
    cases op <;> simp only [intShift, intBin] at h
    case shl =>
      split at h
      · simp at h
      · rename_i hb
        simp only [Option.some.injEq] at h
        subst h
        simp only [binOp, Op.shift, hb, if_false, Sem.run_pure]
    case shr =>
      split at h
      · simp at h
      · rename_i hb
        simp only [Option.some.injEq] at h
        subst h
        simp only [binOp, Op.shift, hb, if_false, Sem.run_pure]
    all_goals
      split at h
      · rename_i hk
        subst hk
        first
          | (simp only [Option.some.injEq] at h; subst h; simp [binOp, Op.intArith, Op.intBits, Op.intCmp]; done)
          | (split at h <;> simp_all [binOp, Op.intDiv]; done)
      · simp at h
  case string.string a b =>
    cases op <;> simp only [strBin] at h
    case add => split at h <;> simp_all [binOp, Op.stringOp]
    all_goals first
      | (simp only [Option.some.injEq] at h; subst h; simp [binOp, Op.stringOp]; done)
      | simp at h
  all_goals simp at h

theorem run_unV {P : Program} {w : World} {op : UnOp} {x v : Value} (h : unV op x = some v) : (Op.unary op x).run P w = .ok v w := by
  cases x <;> cases op <;> simp only [unV, Option.some.injEq] at h <;> first
    | (subst h; simp [Op.unary, Op.intArith, Op.intBits]; done)
    | simp at h

theorem run_eqGuard_plain {P : Program} {w : World} {op : BinOp} {t : TypeId} {x y : Operand} {a b : Value} (ha : a.oneCell' = true) (hn : a ≠ .nilIface) : (eqGuard op t x y a b).run P w = .ok () w := by
  unfold eqGuard
  cases a <;> simp_all [Value.oneCell'] <;> (split <;> rfl)



/-! What is given. -/
def okBounds (n : Nat) (lo hi mx : Option Int) : Option (Nat × Nat × Nat) :=
  let m := mx.getD n
  let h := hi.getD n
  let l := lo.getD 0
  if 0 ≤ l ∧ l ≤ h ∧ h ≤ m ∧ m ≤ n then some (l.toNat, h.toNat, m.toNat) else none
def St.int (st : St) (x : Opd) : Option Int :=
  match st.ev x with
  | some (.v (.int _ n)) => some n
  | _ => none
def St.int? (st : St) : Option Opd → Option (Option Int)
  | none => some none
  | some x => (st.int x).map some
def St.str (st : St) (x : Opd) : Option ByteArray :=
  match st.ev x with
  | some (.v (.string s)) => some s
  | _ => none

def isNilSl : Value → Bool
  | .slice none 0 0 => true
  | _ => false
theorem isNilSl_eq {y : Value} (h : isNilSl y = true) : y = .slice none 0 0 := by
  unfold isNilSl at h
  split at h
  · rfl
  · simp at h
def isNilP : Value → Bool
  | .pointer none => true
  | _ => false

/-- The node that a reference's path leads to. -/
def St.node (st : St) (p : Pl) : Option AV := (st.rt.get p.r).bind fun x => x.sub p.path
def takeOwn (es off len : Nat) : Option AV → Option (List AV)
  | some (.own es' xs) => if es' = es ∧ off + len ≤ xs.length then some ((xs.drop off).take len) else none
  | _ => none
def takeArr (j len : Nat) : Option AV → Option (List AV)
  | some z => if j + len ≤ z.cells.length then some ((z.cells.drop j).take len) else none
  | none => none
/-- The elements that a slice shows, es cells each. -/
def rdS (es : Nat) (st : St) : AV → Option (List AV)
  | .v u => if isNilSl u then some [] else none
  | .lst es' xs => if es' = es then some xs else none
  | .sl p es' off len => if es' = es then takeOwn es off len (cellAt st.rt p.r p.path p.j) else none
  | .sa p es' len cap => if es' = 1 ∧ es = 1 then takeArr p.j len (st.node p) else none
  | _ => none

def rfGet : List (Nat × Nat × AV) → Nat → Nat → Option AV
  | [], _, _ => none
  | (r, j, x) :: l, r', j' => if r = r' ∧ j = j' then some x else rfGet l r' j'
/-- A cell, as it is when it is loaded. -/
def ld1 (rf : List (Nat × Nat × AV)) (p : Pl) : AV → AV
  | .own es xs => .sl p es 0 xs.length
  | .obj _ => .ref ⟨p.r, p.path ++ [(p.j, 0)], 0⟩
  | .ext _ => .junk
  | .junk => match p.path with
    | [] => (rfGet rf p.r p.j).getD .junk
    | _ :: _ => .junk
  | c => c
def ldL (rf : List (Nat × Nat × AV)) (r : Nat) (path : List Hop) : Nat → List AV → List AV
  | _, [] => []
  | j, c :: cs => ld1 rf ⟨r, path, j⟩ c :: ldL rf r path (j + 1) cs
def ldN (rf : List (Nat × Nat × AV)) (p : Pl) (m : Nat) : Option AV → Option AV
  | some z => if p.j + m ≤ z.cells.length then some (.agg (ldL rf p.r p.path p.j ((z.cells.drop p.j).take m))) else none
  | none => none
def St.load (st : St) (m : Option Nat) : AV → Option AV
  | .ref p => match m with
    | none => (cellAt st.rt p.r p.path p.j).map (ld1 st.rf p)
    | some m => ldN st.rf p m (st.node p)
  | .fptr y j => match m with
    | none => y.cells[j]?
    | some m => if j + m ≤ y.cells.length then some (.agg ((y.cells.drop j).take m)) else none
  | _ => none

/-- A pointer's address, so many cells on. -/
def pOff (n : Nat) : AV → Option AV
  | .ref p => some (.ref { p with j := p.j + n })
  | .fptr y j => if j + n < y.cells.length then some (.fptr y (j + n)) else none
  | _ => none
/-- An element's address. -/
def elemP (i : Nat) : AV → Option AV
  | .sl p _ off _ => some (.ref ⟨p.r, p.path ++ [(p.j, off + i)], 0⟩)
  | .lst _ xs => (xs[i]?).map fun x => .fptr x 0
  | .sa p es _ _ => some (.ref { p with j := p.j + i * es })
  | _ => none
def slOff (l n : Nat) : AV → AV
  | .sl p es off _ => .sl p es (off + l) n
  | .lst es xs => .lst es ((xs.drop l).take n)
  | .sa _ _ _ _ => .junk
  | x => x
def arrSl (es l n c : Nat) : AV → Option AV
  | .ref p => if es = 0 then none else some (.sa { p with j := p.j + l * es } es n c)
  | _ => none
def arrLen (st : St) : AV → Option Nat
  | .ref p => (st.node p).map fun z => z.cells.length - p.j
  | .fptr y j => some (y.cells.length - j)
  | _ => none

/-- Is a pointer nil? -/
def ptrNil : AV → Option Bool
  | .v y => if isNilP y = true then some true else none
  | .ref _ => some false
  | .fptr _ _ => some false
  | _ => none
/-- Two references to one place? -/
def sameRef : AV → AV → Bool
  | .ref p, .ref q => decide (p.r = q.r) && (decide (p.path = q.path) && decide (p.j = q.j))
  | _, _ => false
/-- Is a slice nil? -/
def slNil : AV → Option Bool
  | .v y => if isNilSl y = true then some true else none
  | .lst _ (_ :: _) => some false
  | .sl _ _ _ (_ + 1) => some false
  | .sa _ (_ + 1) _ _ => some false
  | _ => none
def eqNil : Bool → Option Bool → Option Bool → Option AV
  | ng, some true, some b => some (.v (.bool (b != ng)))
  | ng, some false, some true => some (.v (.bool ng))
  | _, _, _ => none
/-- Plain values, one by one the same? -/
def eq1 : AV → AV → Option Bool
  | .v (.int k a), .v (.int k' b) => if k = k' then some (a == b) else none
  | .v (.bool a), .v (.bool b) => some (a == b)
  | .v (.string a), .v (.string b) => some (a.toList == b.toList)
  | _, _ => none
def eqL : List AV → List AV → Option Bool
  | [], [] => some true
  | a :: as, b :: bs => match eq1 a b, eqL as bs with
    | some x, some y => some (x && y)
    | _, _ => none
  | _, _ => none
/-- Are cells of these kinds? -/
def fit1 : Nat → AV → Bool
  | 0, .v (.bool _) => true
  | 1, .v (.int _ _) => true
  | 2, .v (.string _) => true
  | _, _ => false
def fitL : List Nat → List AV → Bool
  | [], [] => true
  | k :: ks, c :: cs => fit1 k c && fitL ks cs
  | _, _ => false
def ntup : AV → Bool
  | .tup _ => false
  | _ => true
def splice {α : Type} (cs : List α) (off : Nat) (ys : List α) : List α := cs.take off ++ (ys ++ cs.drop (off + ys.length))
def fillA (st : St) : List AV → List (Nat × Nat × Opd) → Option (List AV)
  | cs, [] => some cs
  | cs, (off, sz, x) :: r => match st.ev x with
    | some y => if ntup y = true ∧ y.cells.length = sz ∧ off + sz ≤ cs.length then fillA st (splice cs off y.cells) r else none
    | none => none
/-- Bytes, as numbers. -/
def byteV : AV → Option UInt8
  | .v (.int .u8 n) => if 0 ≤ n ∧ n < 256 then some (UInt8.ofNat n.toNat) else none
  | _ => none

/-- Part of a value's cells. -/
def partV (cs : List AV) (off : Nat) : Option Nat → Option AV
  | none => cs[off]?
  | some m => if off + m ≤ cs.length then some (.agg ((cs.drop off).take m)) else none

def veval (e : VE) (st : St) : Option AV :=
  match e with
  | .mv x => st.ev x
  | .pick c a b =>
    match st.ev c with
    | some (.v (.bool t)) => if t then st.ev a else st.ev b
    | _ => none
  | .bin op x y =>
    match st.ev x, st.ev y with
    | some (.v a), some (.v b) => (binV op a b).map .v
    | _, _ => none
  | .un op x =>
    match st.ev x with
    | some (.v a) => (unV op a).map .v
    | _ => none
  | .cvi k x => (st.int x).map fun n => .v (.int k (k.wrap n))
  | .fa x off => (st.ev x).bind (pOff off)
  | .ia x i es =>
    match st.ev x, st.int i with
    | some y, some n => match rdS es st y with
      | some xs => if 0 ≤ n ∧ n < xs.length then elemP n.toNat y else none
      | none => none
    | _, _ => none
  | .iaa x i len es =>
    match st.ev x, st.int i with
    | some y, some n => if 0 ≤ n ∧ n < len then pOff (n.toNat * es) y else none
    | _, _ => none
  | .is x i =>
    match st.str x, st.int i with
    | some s, some n => if 0 ≤ n ∧ n < s.size then some (.v (.int .u8 ((s[n.toNat]?).getD 0).toNat)) else none
    | _, _ => none
  | .ld x n => (st.ev x).bind (st.load n)
  | .ss x lo hi =>
    match st.str x, st.int? lo, st.int? hi with
    | some s, some l, some h => (okBounds s.size l h none).map fun b => .v (.string (s.extract b.1 b.2.1))
    | _, _, _ => none
  | .sl x lo hi mx es =>
    match st.ev x, st.int? lo, st.int? hi, st.int? mx with
    | some y, some l, some h, some m => match rdS es st y with
      | some xs => (okBounds xs.length l h m).map fun b => slOff b.1 (b.2.1 - b.1) y
      | none => none
    | _, _, _, _ => none
  | .sla x lo hi mx n es =>
    match st.ev x, st.int? lo, st.int? hi, st.int? mx with
    | some y, some l, some h, some m => match arrLen st y with
      | some k => if n * es ≤ k then (okBounds n l h m).bind fun b => arrSl es b.1 (b.2.1 - b.1) (b.2.2 - b.1) y else none
      | none => none
    | _, _, _, _ => none
  | .lns x => (st.str x).map fun s => .v (.int .i64 s.size)
  | .lnl x es =>
    match st.ev x with
    | some y => (rdS es st y).map fun r => .v (.int .i64 r.length)
    | none => none
  | .cst v => if v.oneCell' then some (.v v) else none
  | .ext x i =>
    match st.ev x with
    | some (.tup xs) => xs[i]?
    | _ => none
  | .fv x off n =>
    match st.ev x with
    | some (.agg cs) => match n with
      | none => cs[off]?
      | some m => if off + m ≤ cs.length then some (.agg ((cs.drop off).take m)) else none
    | _ => none
  | .nc x =>
    match st.ev x with
    | some y => if ptrNil y = some false then some y else none
    | none => none
  | .fnv f caps => (caps.mapM st.ev).bind fun cs => if cs.all (fun c => AV.one c && !(match c with | .fn _ _ => true | _ => false)) then some (.fn f cs) else none
  | .eqb ng x y =>
    match st.ev x, st.ev y with
    | some (.v (.bool a)), some (.v (.bool b)) => some (.v (.bool ((a == b) != ng)))
    | _, _ => none
  | .eqp ng sz x y =>
    match st.ev x, st.ev y with
    | some a, some b => if sz = true ∧ sameRef a b = true then some (.v (.bool !ng)) else eqNil ng (ptrNil a) (ptrNil b)
    | _, _ => none
  | .eqs ng x y =>
    match st.ev x, st.ev y with
    | some a, some b => eqNil ng (slNil a) (slNil b)
    | _, _ => none
  | .eqa ng ks x y =>
    match st.ev x, st.ev y with
    | some (.agg as), some (.agg bs) => if fitL ks as = true then (eqL as bs).map fun b => .v (.bool (b != ng)) else none
    | _, _ => none
  | .mn x y =>
    match st.ev x, st.ev y with
    | some (.v (.int k a)), some (.v (.int _ b)) => some (.v (.int k (if b < a then b else a)))
    | _, _ => none
  | .mx x y =>
    match st.ev x, st.ev y with
    | some (.v (.int k a)), some (.v (.int _ b)) => some (.v (.int k (if b > a then b else a)))
    | _, _ => none
  | .bld z ps => (fillA st (z.map .v) ps).map .agg
  | .b2s x =>
    match st.ev x with
    | some y => match rdS 1 st y with
      | some xs => (xs.mapM byteV).map fun l => .v (.string ⟨l.toArray⟩)
      | none => none
    | none => none
  | .ix x i len es m =>
    match st.ev x, st.int i with
    | some (.agg cs), some k => if 0 ≤ k ∧ k < len then partV cs (k.toNat * es) m else none
    | _, _ => none

end Go.Proofs.Ythlehngbadianaa.Ow
