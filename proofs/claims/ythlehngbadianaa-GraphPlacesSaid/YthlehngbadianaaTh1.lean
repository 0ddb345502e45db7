/- What the functions of the program do, each once: contracts of the logic (part h1). -/
import Derived.Test.YthlehngbadianaaTg8
set_option linter.unusedVariables false
set_option linter.unusedSimpArgs false
set_option linter.unnecessarySimpa false
set_option maxRecDepth 100000
set_option maxHeartbeats 4000000
namespace Go.Proofs.Ythlehngbadianaa.Ow
open Go Go.RowKit Go.Proofs
/-! A cluster's part of a graph, in plain Lean. -/
/-- Decimal digits. -/
def digs (u : Nat) : List UInt8 := if h : u < 10 then [(UInt8.ofNat (48 + u))] else digs (u / 10) ++ [UInt8.ofNat (48 + u % 10)]
termination_by u
decreasing_by omega
def decL (v : Int) : List UInt8 := if v < 0 then 45 :: digs v.natAbs else digs v.natAbs
def decB (v : Int) : ByteArray := ⟨(decL v).toArray⟩
structure PM where
  g : Gr
  ops : List Int
  lv : List Int
  ar : List Int
def pm0 : PM := ⟨⟨[], [], [], []⟩, [], [], []⟩
def oNm (n : Nat) : ByteArray := (⟨#[111]⟩ : ByteArray) ++ decB n
def addP (m : PM) (o : O6) (w : Int) : PM := { m with g := { m.g with op := m.g.op ++ [{ o with nm := oNm m.ops.length, at_ := 0 }] }, ops := m.ops ++ [w] }
/-- The place of a number in a list; below nought: nowhere. -/
def idxI (l : List Int) (x : Int) : Int := match l.findIdx? (fun y => y == x) with | some i => i | none => -1
/-- The number of an operator in the part. -/
def locI (l : List Int) (x : Int) : Option Int := if x < 0 ∨ idxI l x < 0 then none else some (idxI l x)
def swapO (lo : Int) : O6 := ⟨⟨#[]⟩, 5, lo, 0, 0, 0⟩
def atO (g : Gr) (n : Int) : Int := match g.op[n.toNat]? with | some o => o.at_ | none => 0
def chAt (g : Gr) (f : Int) : Ch := match g.ch[f.toNat]? with | some c => c | none => (0, 0)
/-- The loop of the place at which a flow arrives. -/
def loopTo (g : Gr) (f : Int) : Int := match g.op[(chAt g f).2.toNat]? with | some o => loopA g o 0 | none => 0
def flN (g : Gr) : Nat → List Int
  | 0 => []
  | i + 1 => match g.ch[i]? with
    | some c => if atO g c.1 ≠ atO g c.2 then flN g i ++ [(i : Int)] else flN g i
    | none => flN g i
def flowsL (g : Gr) : List Int := flN g g.ch.length
def opsN (g : Gr) (cl : Int) (m : PM) : Nat → PM
  | 0 => m
  | i + 1 => match g.op[i]? with
    | some o => if o.at_ = cl then addP (opsN g cl m i) o i else opsN g cl m i
    | none => opsN g cl m i
def lvS (g : Gr) (s : PM × List Ch) (f : Int) : PM × List Ch :=
  match locI s.1.ops (chAt g f).1 with
  | some k => (addP { s.1 with lv := s.1.lv ++ [f] } (swapO (loopTo g f)) (-1), s.2 ++ [(k, (s.1.ops.length : Int))])
  | none => s
def arS (g : Gr) (s : PM × List Ch) (f : Int) : PM × List Ch :=
  match locI s.1.ops (chAt g f).2 with
  | some k => (addP { s.1 with ar := s.1.ar ++ [f] } (swapO (loopTo g f)) (-1), s.2 ++ [((s.1.ops.length : Int), k)])
  | none => s
def chS (ops : List Int) (l : List Ch) (c : Ch) : List Ch :=
  match locI ops c.1, locI ops c.2 with
  | some a, some b => l ++ [(a, b)]
  | _, _ => l
def cutA (g : Gr) (cl : Nat) : PM := opsN g cl { pm0 with g := { pm0.g with cl := (g.cl[cl]?).toList, lo := g.lo } } g.op.length
def cutB (g : Gr) (cl : Nat) : PM × List Ch := (flowsL g).foldl (lvS g) (cutA g cl, [])
def cutC (g : Gr) (cl : Nat) : PM × List Ch := (flowsL g).foldl (arS g) (cutB g cl)
def cutD (g : Gr) (cl : Nat) : PM := { (cutC g cl).1 with g := { (cutC g cl).1.g with ch := g.ch.foldl (chS (cutC g cl).1.ops) [] ++ (cutC g cl).2 } }
def cutZ (g : Gr) (cl : Int) : PM × Int :=
  if chk g ≠ 0 then (pm0, chk g)
  else if cl < 0 ∨ g.cl.length ≤ cl then (pm0, 1)
  else if 24 < (cutD g cl.toNat).g.op.length ∨ 48 < (cutD g cl.toNat).g.ch.length then (pm0, 7)
  else (cutD g cl.toNat, 0)
def intsA (l : List Int) : AV := .lst 1 (l.map i64A)
def partA (m : PM) : AV := .agg [.lst 2 (m.g.cl.map clA), .lst 3 (m.g.lo.map loA), .lst 6 (m.g.op.map opA), .lst 2 (m.g.ch.map chA), intsA m.ops, intsA m.lv, intsA m.ar]
end Go.Proofs.Ythlehngbadianaa.Ow
