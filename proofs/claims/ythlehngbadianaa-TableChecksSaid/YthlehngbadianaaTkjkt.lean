/- What the functions of the program do, each once: contracts of the logic (part kj kt). -/
import Derived.Test.YthlehngbadianaaOwWeakNil
import Derived.Test.YthlehngbadianaaProg
import Derived.Shelf.Strings.OnBuilder
import Derived.Shelf.Lays
set_option linter.unusedVariables false
set_option linter.unusedSimpArgs false
set_option linter.unnecessarySimpa false
set_option maxRecDepth 100000
namespace Go.Proofs.Ythlehngbadianaa.Ow
open Go Go.RowKit Go.Proofs Go.Shelf
def jnRen : Go.Shelf.Ren := ⟨fun | 156 => 163 | 165 => 205 | 166 => 109 | 169 => 112 | 240 => 190 | 241 => 229 | 276 => 225 | 277 => 249 | n => n, fun | 0 => 0 | 3 => 3 | 4 => 4 | 5 => 5 | 9 => 9 | 20 => 20 | 31 => 43 | 37 => 172 | 70 => 171 | 72 => 174 | 75 => 176 | 76 => 177 | 80 => 183 | 127 => 256 | 164 => 286 | n => n, fun n => n⟩
theorem jnLays : Lays.n156 Try.prog jnRen := {
  mixed := by kernel_rfl
  f156 := by kernel_rfl
  f165 := by kernel_rfl
  f166 := by kernel_rfl
  f169 := by kernel_rfl
  f240 := by kernel_rfl
  f241 := by kernel_rfl
  f276 := by kernel_rfl
  f277 := by kernel_rfl
  t0 := Try.underlying0
  a0 := Try.isAgg0
  z0 := Try.sizeOf0
  v0 := Try.zeroValue0
  t3 := Try.underlying3
  a3 := Try.isAgg3
  z3 := Try.sizeOf3
  v3 := Try.zeroValue3
  t4 := Try.underlying4
  a4 := Try.isAgg4
  z4 := Try.sizeOf4
  v4 := Try.zeroValue4
  t9 := Try.underlying9
  a9 := Try.isAgg9
  z9 := Try.sizeOf9
  v9 := Try.zeroValue9
  t20 := Try.underlying20
  a20 := Try.isAgg20
  z20 := Try.sizeOf20
  v20 := Try.zeroValue20
  t31 := Try.underlying43
  a31 := Try.isAgg43
  z31 := Try.sizeOf43
  v31 := Try.zeroValue43
  t37 := Try.underlying172
  a37 := Try.isAgg172
  z37 := Try.sizeOf172
  v37 := Try.zeroValue172
  t70 := Try.underlying171
  a70 := Try.isAgg171
  z70 := Try.sizeOf171
  v70 := Try.zeroValue171
  t72 := Try.underlying174
  a72 := Try.isAgg174
  z72 := Try.sizeOf174
  v72 := Try.zeroValue174
  t75 := Try.underlying176
  a75 := Try.isAgg176
  z75 := Try.sizeOf176
  v75 := Try.zeroValue176
  t76 := Try.underlying177
  a76 := Try.isAgg177
  z76 := Try.sizeOf177
  v76 := Try.zeroValue177
  t127 := Try.underlying256
  a127 := Try.isAgg256
  z127 := Try.sizeOf256
  v127 := Try.zeroValue256
  t164 := Try.underlying286
  a164 := Try.isAgg286
  z164 := Try.sizeOf286
  v164 := Try.zeroValue286 }
theorem jnExtra : Builder.Extra Try.prog jnRen := {
  sizeBuilder := by kernel_rfl
  liesBuilder := by kernel_rfl
  t5 := Try.underlying5
  a5 := Try.isAgg5
  z5 := Try.sizeOf5
  v5 := Try.zeroValue5
  infoByte := by kernel_rfl
  cellsByte := by kernel_rfl
  sizeByte := by kernel_rfl
  neB5 := by decide }
theorem c163 (ws : List ByteArray) (sep : ByteArray) (hN : ws.length ≤ 140737488355328) (hlen : (Lib.join (ws.map (·.data.toList)) sep.data.toList).length ≤ 140737488355328) {Q : AV → Al → Prop} (h : Q (.v (.string ⟨(Lib.join (ws.map (·.data.toList)) sep.data.toList).toArray⟩)) []) :
    ACalls Try.prog 163 [] [.lst 1 (ws.map fun s => .v (.string s)), .v (.string sep)] Q := by
  refine ACalls.kit rfl ?_ h
  intro I w F env vals hl hv
  obtain ⟨u0, e0, s0⟩ := hv 0 _ rfl
  obtain ⟨u1, e1, s1⟩ := hv 1 _ rfl
  have hvals : vals = #[u0, u1] := by
    apply Array.ext_getElem?
    intro i
    match i with
    | 0 => rw [e0]; rfl
    | 1 => rw [e1]; rfl
    | i + 2 => rw [Array.getElem?_eq_none (by rw [hl]; simp), Array.getElem?_eq_none (by simp)]
  subst hvals
  have h1 : u1 = .string sep := by
    have s1' : Rep w F (.v (.string sep)) u1 E0 := s1
    cases s1'; rfl
  subst h1
  rcases lst_cells s0 with ⟨rfl, a, c, rfl⟩ | ⟨B, o, c, rfl, hc, hB, hcell⟩
  · refine (Any.strings_Join_none jnLays jnExtra a c sep w).mono ?_
    rintro e w' ⟨rfl, rfl⟩
    exact ⟨by simp [Lib.join], Below.refl _ _⟩
  · exact Any.strings_Join jnLays jnExtra B o c ws sep w hcell hB hN hc hlen
#print axioms c163
end Go.Proofs.Ythlehngbadianaa.Ow
set_option maxRecDepth 100000
namespace Go.Proofs.Ythlehngbadianaa.Ow.Kt
open Go Go.RowKit Go.Proofs
/-! Texts as lists of bytes. -/
def bsS (s : ByteArray) : List UInt8 := s.data.toList
theorem ba_list (s : ByteArray) : (⟨(bsS s).toArray⟩ : ByteArray) = s := by
  apply ByteArray.ext; simp [bsS]
theorem bs_mk (l : List UInt8) : bsS ⟨l.toArray⟩ = l := by simp [bsS]
theorem bs_app (a b : ByteArray) : bsS (a ++ b) = bsS a ++ bsS b := by
  unfold bsS; rw [ByteArray.data_append, Array.toList_append]
theorem bs_len (a : ByteArray) : (bsS a).length = a.size := Array.length_toList
theorem ba_ext {a : ByteArray} {l : List UInt8} (h : bsS a = l) : a = ⟨l.toArray⟩ := by rw [← h, ba_list]
theorem dtl (l : List UInt8) : (⟨l.toArray⟩ : ByteArray).data.toList = l := by simp
theorem szl (l : List UInt8) : (⟨l.toArray⟩ : ByteArray).size = l.length := rfl
theorem cat_if {a b : ByteArray} (h : a.size + b.size ≤ 1000000) : (if IntKind.i64.max < ((a.size + b.size : Nat) : Int) then none else some (Value.string (a ++ b))) = some (Value.string (a ++ b)) := by
  have m : IntKind.i64.max = 9223372036854775807 := rfl
  rw [if_neg (by rw [m]; omega)]
theorem catL {a : List UInt8} {s : ByteArray} (h : a.length + (bsS s).length ≤ 1000000) : (if IntKind.i64.max < (((⟨a.toArray⟩ : ByteArray).size + s.size : Nat) : Int) then none else some (Value.string ((⟨a.toArray⟩ : ByteArray) ++ s))) = some (Value.string ⟨(a ++ bsS s).toArray⟩) := by
  rw [cat_if (by rw [szl, ← bs_len s]; exact h)]
  rw [ba_ext (show bsS ((⟨a.toArray⟩ : ByteArray) ++ s) = a ++ bsS s by rw [bs_app, bs_mk])]
theorem flat_len {α : Type} (K : Nat) (f : α → List UInt8) : ∀ (l : List α), (∀ x ∈ l, (f x).length ≤ K) → (l.map f).flatten.length ≤ l.length * K
  | [], _ => by simp
  | x :: l, h => by
    have h1 := flat_len K f l fun y hy => h y (List.mem_cons_of_mem _ hy)
    have h2 := h x (List.mem_cons_self ..)
    simp only [List.map_cons, List.flatten_cons, List.length_append, List.length_cons, Nat.add_mul]; omega
def tx {α : Type} (f : α → List UInt8) (l : List α) (i : Nat) : List UInt8 := ((l.take i).map f).flatten
theorem tx_zero {α : Type} {f : α → List UInt8} {l : List α} : tx f l 0 = [] := by simp [tx]
theorem tx_snoc {α : Type} {f : α → List UInt8} {l : List α} {i : Nat} {x : α} (h : l[i]? = some x) : tx f l (i + 1) = tx f l i ++ f x := by
  have e : l.take (i + 1) = l.take i ++ [x] := by rw [List.take_add_one, h]; rfl
  simp only [tx, e, List.map_append, List.map_cons, List.map_nil, List.flatten_append, List.flatten_cons, List.flatten_nil, List.append_nil]
theorem tx_len {α : Type} {K : Nat} {f : α → List UInt8} {l : List α} (h : ∀ x ∈ l, (f x).length ≤ K) (i : Nat) : (tx f l i).length ≤ i * K := by
  have := flat_len K f (l.take i) fun x hx => h x (List.mem_of_mem_take hx)
  have h2 : (l.take i).length ≤ i := by rw [List.length_take]; omega
  have h3 : (l.take i).length * K ≤ i * K := Nat.mul_le_mul_right _ h2
  exact Nat.le_trans this h3
theorem tx_all {α : Type} {f : α → List UInt8} {l : List α} : tx f l l.length = (l.map f).flatten := by simp only [tx, List.take_length]
end Go.Proofs.Ythlehngbadianaa.Ow.Kt
