/- What the functions of the program do, each once: contracts of the logic (part gw). -/
import Derived.Test.YthlehngbadianaaDoorOwWeakNil
import Derived.Test.YthlehngbadianaaDoorProg
import Derived.WalkKit
import Derived.Lib.Strings
import Derived.Lib.Walk
import Derived.Laws.Externs
import Derived.Laws.RangeString
import Derived.Laws.RangeAny
import Derived.LoopTactic
import Derived.Lib.OthersKept
set_option linter.unusedVariables false
set_option linter.unusedSimpArgs false
set_option linter.unnecessarySimpa false
set_option maxRecDepth 100000
set_option maxHeartbeats 1000000
set_option pp.maxSteps 150
namespace Go.Proofs.YthlehngbadianaaDoor.Ow
open Go Go.RowKit Go.Proofs
def letB (b : Nat) : Bool := decide (97 ≤ b) && decide (b ≤ 122)
def digB (b : Nat) : Bool := decide (48 ≤ b) && decide (b ≤ 57)
/-- A name: letters and digits, a letter first. -/
def nameB (s : ByteArray) : Bool := decide (s.size ≠ 0) && decide (s.size ≤ 12) && letB (s.get! 0).toNat && s.data.toList.all fun b => letB b.toNat || digB b.toNat
def okB (b : UInt8) : Bool := letB b.toNat || digB b.toNat
theorem below_iter (w : World) (s : ByteArray) (pos : Nat) : Below w.heap.size w (w.iter s pos) := (Below.refl _ _).alloc (Nat.le_refl _) _
theorem all_false {s : ByteArray} {pos : Nat} (h : pos < s.size) (hb : okB (s[pos]'h) = false) : (s.data.toList.all fun b => letB b.toNat || digB b.toNat) = false := by
  rw [List.all_eq_false]
  have hl : s.data.toList[pos]? = some (s[pos]'h) := by
    rw [Array.getElem?_toList, Array.getElem?_eq_getElem (by exact h)]; rfl
  exact ⟨_, List.mem_of_getElem? hl, by simpa [okB] using hb⟩
theorem all_true {s : ByteArray} (hh : ∀ i (hi : i < s.size), okB (s[i]'hi) = true) : (s.data.toList.all fun b => letB b.toNat || digB b.toNat) = true := by
  rw [List.all_eq_true]
  intro b hb
  obtain ⟨i, hi⟩ := List.getElem?_of_mem hb
  obtain ⟨h1, h2⟩ := List.getElem?_eq_some_iff.1 hi
  have := hh i (by simpa using h1)
  rw [← h2]
  exact this
theorem get0 {s : ByteArray} (h : 0 < s.size) : s.get! 0 = s[0]'h := by
  simp [ByteArray.get!, getElem!_pos, h]; rfl
theorem wrap_u8' (x : Nat) (h : x < 128) : IntKind.u8.wrap (x : Int) = x := by
  simp [IntKind.wrap, IntKind.bits, IntKind.signed]; omega
theorem toList_len (s : ByteArray) : s.toList.length = s.size := by rw [ByteArray.toList_eq, Lib.size_eq]
theorem gw_name (s : ByteArray) (w : World) : Calls Tryd.prog 77 #[.string s] w fun e w' => e = .returned (.bool (nameB s)) ∧ Below w.heap.size w w' := by
  go_enter Tryd.func77, Tryd.ntmps77
  go_wp2
  · have h1 : s.toList = [] := by assumption
    go_ret
    refine ⟨?_, Below.refl _ _⟩
    have : s.size = 0 := by rw [← toList_len s, h1]; rfl
    simp [nameB, this]
  · have h3 : 0 < s.size := by assumption
    have h4 : (s.toList.isEmpty = true ∨ 12 < (s.size : Int)) ∨ (!decide (((s[0]'h3).toNat : Int) ≤ 122)) = true := by assumption
    have h5 : (s.size : Int) ≤ 12 := by assumption
    have h6 : ¬ s.toList = [] := by assumption
    go_ret
    refine ⟨?_, Below.refl _ _⟩
    have : letB (s.get! 0).toNat = false := by
      rw [get0 h3]
      simp only [List.isEmpty_iff, h6, false_or, Bool.not_eq_true', decide_eq_false_iff_not] at h4
      simp only [letB, Bool.and_eq_false_iff, decide_eq_false_iff_not]
      omega
    simp [nameB, this]
  · have h3 : 0 < s.size := by assumption
    have h4 : (s.toList.isEmpty = false ∧ (s.size : Int) ≤ 12) ∧ (!decide (((s[0]'h3).toNat : Int) ≤ 122)) = false := by assumption
    have h5 : (97 : Int) ≤ ((s[0]'h3).toNat : Int) := by assumption
    have hlet : letB (s.get! 0).toNat = true := by
      rw [get0 h3]
      have := h4.2
      simp only [Bool.not_eq_false', decide_eq_true_eq] at this
      simp only [letB, Bool.and_eq_true, decide_eq_true_eq]
      omega
    go_loopw [4] (fun c w' => ∃ pos : Nat, w' = w.iter s pos ∧ pos ≤ s.size ∧ ∀ i (hi : i < s.size), i < pos → okB (s[i]'hi) = true) (fun _ w' => s.size - w'.iterPos w.heap.size)
    case atStart => exact ⟨0, rfl, by omega, fun i _ h => by omega⟩
    case round =>
      obtain ⟨pos, rfl, hle, hall⟩ := hrel
      by_cases hp : pos < s.size
      · by_cases ha : (s[pos]'hp).toNat < 128
        · have hnx : ∀ ty, (Instr.next (.pointer (some ⟨w.heap.size, 0, none⟩)) true ty).run Tryd.prog (w.iter s pos) = _ := fun ty => run_next_ascii w s pos ty hp ha
          have hw8 := wrap_u8' _ ha
          go_wp2
          all_goals simp only [Bool.not_eq_true', decide_eq_false_iff_not, Bool.not_eq_false', decide_eq_true_eq] at *
          all_goals first
            | (exfalso; omega)
            | (go_ret
               refine ⟨?_, below_iter _ _ _⟩
               have hf : okB (s[pos]'hp) = false := by
                 simp only [okB, letB, digB, Bool.or_eq_false_iff, Bool.and_eq_false_iff, decide_eq_false_iff_not]
                 omega
               simp [nameB, all_false hp hf])
            | (refine ⟨⟨pos + 1, rfl, by omega, fun i hi hlt => ?_⟩, by omega⟩
               by_cases he : i = pos
               · subst he
                 simp only [okB, letB, digB, Bool.or_eq_true, Bool.and_eq_true, decide_eq_true_eq]
                 omega
               · exact hall i hi (by omega))
            | trace_state
        · obtain ⟨d1, d2⟩ := decode_high s pos hp (by omega)
          have hnx : ∀ ty, (Instr.next (.pointer (some ⟨w.heap.size, 0, none⟩)) true ty).run Tryd.prog (w.iter s pos) = _ := fun ty => run_next_any w s pos ty hp
          have hbig : (127 : Int) < ((Utf8.decode s pos).1 : Int) := by omega
          go_wp2
          go_ret
          refine ⟨?_, below_iter _ _ _⟩
          have hf : okB (s[pos]'hp) = false := by
            simp only [okB, letB, digB, Bool.or_eq_false_iff, Bool.and_eq_false_iff, decide_eq_false_iff_not]
            omega
          simp [nameB, all_false hp hf]
      · have hnx : ∀ ty, (Instr.next (.pointer (some ⟨w.heap.size, 0, none⟩)) true ty).run Tryd.prog (w.iter s pos) = _ := fun ty => run_next_end w s pos ty hp
        go_wp2
        go_ret
        refine ⟨?_, below_iter _ _ _⟩
        have := all_true fun i hi => hall i hi (by omega)
        have h8 : s.size ≤ 12 := by omega
        have h9 : s.size ≠ 0 := by omega
        have hn : nameB s = true := by simp only [nameB, this, hlet, h8, h9, ne_eq, not_false_eq_true, decide_true, Bool.and_self]
        simp [hn]
  · have h3 : 0 < s.size := by assumption
    have h5 : ((s[0]'h3).toNat : Int) < 97 := by assumption
    go_ret
    refine ⟨?_, Below.refl _ _⟩
    have : letB (s.get! 0).toNat = false := by
      rw [get0 h3]
      simp only [letB, Bool.and_eq_false_iff, decide_eq_false_iff_not]
      omega
    simp [nameB, this]
  · exfalso
    have h3 : ¬ 0 < s.size := by assumption
    have h6 : ¬ s.toList = [] := by assumption
    exact h6 (List.eq_nil_of_length_eq_zero (by rw [toList_len]; omega))
  · have h5 : 12 < (s.size : Int) := by assumption
    go_ret
    refine ⟨?_, Below.refl _ _⟩
    have h8 : ¬ s.size ≤ 12 := by omega
    simp [nameB, h8]
/-- The entries of a set of names. -/
def nmE (l : List ByteArray) : List (Value × Value) := l.map fun s => (.string s, .bool true)
def memB (s : ByteArray) (l : List ByteArray) : Bool := l.any fun t => t.toList == s.toList
theorem ba_toList {s t : ByteArray} (h : s.toList = t.toList) : s = t := by
  rw [ByteArray.toList_eq, ByteArray.toList_eq] at h
  obtain ⟨x⟩ := s
  obtain ⟨y⟩ := t
  congr 1
  exact Array.ext' h
theorem memB_iff {s : ByteArray} {l : List ByteArray} : memB s l = true ↔ s ∈ l := by
  rw [memB, List.any_eq_true]
  constructor
  · rintro ⟨x, hx, h⟩
    have e : x = s := ba_toList (by simpa using h)
    rw [← e]; exact hx
  · intro h; exact ⟨s, h, by simp⟩
theorem memB_false {s : ByteArray} {l : List ByteArray} : memB s l = false ↔ s ∉ l := by
  rw [← memB_iff]; simp
section
variable {w : World} {b clock : Nat} {ents : Array MapEntry} {l : List ByteArray} {s : ByteArray}
theorem nm_keys (he : ents.toList.map (fun e => (e.key, e.val)) = nmE l) : ∀ x ∈ ents.toList, MapKept.IsKey .string x.key ∧ x.val = .bool true := by
  intro x hx
  have : (x.key, x.val) ∈ nmE l := by rw [← he]; exact List.mem_map_of_mem hx
  obtain ⟨y, _, hy⟩ := List.mem_map.1 this
  simp only [Prod.mk.injEq] at hy
  rw [← hy.1, ← hy.2]
  exact ⟨trivial, rfl⟩
theorem nm_mem (he : ents.toList.map (fun e => (e.key, e.val)) = nmE l) : s ∈ l ↔ ∃ x ∈ ents.toList, x.key = .string s := by
  constructor
  · intro h
    have : (Value.string s, Value.bool true) ∈ nmE l := List.mem_map.2 ⟨s, h, rfl⟩
    rw [← he] at this
    obtain ⟨x, hx, hy⟩ := List.mem_map.1 this
    simp only [Prod.mk.injEq] at hy
    exact ⟨x, hx, hy.1⟩
  · rintro ⟨x, hx, hk⟩
    have : (x.key, x.val) ∈ nmE l := by rw [← he]; exact List.mem_map_of_mem hx
    obtain ⟨y, hy, hyx⟩ := List.mem_map.1 this
    simp only [Prod.mk.injEq] at hyx
    rw [hk] at hyx
    obtain rfl : y = s := by simpa using hyx.1
    exact hy
theorem run_lookup_nm (hb : w.heap[b]? = some (.map ents clock)) (he : ents.toList.map (fun e => (e.key, e.val)) = nmE l) : (Instr.lookup 126 (.map (some b)) (.string s) false).run Tryd.prog w = .ok (.bool (memB s l)) w := by
  have hks : MapKept.IsKey .string (.string s) := trivial
  have hz : (zeroValue 4).run Tryd.prog w = .ok (.bool false) w := rfl
  rcases MapKept.findNow_spec hks ents.toList 0 (fun x hx => (nm_keys he x hx).1) with ⟨h1, h2⟩ | ⟨j, e, h1, h2, h3⟩
  · have hm : memB s l = false := by
      rw [memB_false]
      rw [nm_mem he]
      rintro ⟨x, hx, hk⟩
      exact h2 x hx hk
    rw [hm]
    simp [Instr.lookup, run_underlying Tryd.underlying126, MapKept.run_getObj_map hb, MapKept.run_checkKey Tryd.underlying9 hks, MapKept.run_findKey Tryd.underlying9 h1, Result.andThen, hz]
  · have hm : memB s l = true := memB_iff.2 <| (nm_mem he).2 <| by
      exact ⟨e, List.mem_of_getElem? h2, h3⟩
    have hv := (nm_keys he e (List.mem_of_getElem? h2)).2
    rw [hm]
    simp [Instr.lookup, run_underlying Tryd.underlying126, MapKept.run_getObj_map hb, MapKept.run_checkKey Tryd.underlying9 hks, MapKept.run_findKey Tryd.underlying9 h1, Result.andThen, hv]
theorem run_update_nm (hb : w.heap[b]? = some (.map ents clock)) (he : ents.toList.map (fun e => (e.key, e.val)) = nmE l) (hn : s ∉ l) : (Instr.mapUpdate 126 (.map (some b)) (.string s) (.bool true)).run Tryd.prog w = .ok () { w with heap := w.heap.setIfInBounds b (.map (ents.push { key := .string s, val := .bool true, born := clock }) (clock + 1)) } := by
  have hks : MapKept.IsKey .string (.string s) := trivial
  rcases MapKept.findNow_spec hks ents.toList 0 (fun x hx => (nm_keys he x hx).1) with ⟨h1, h2⟩ | ⟨j, e, h1, h2, h3⟩
  · simp [Instr.mapUpdate, run_underlying Tryd.underlying126, MapKept.run_getObj_map hb, MapKept.run_checkKey Tryd.underlying9 hks, MapKept.run_findKey Tryd.underlying9 h1, MapKept.run_setObj_map _ hb, Result.andThen]
  · exact absurd ((nm_mem he).2 ⟨e, List.mem_of_getElem? h2, h3⟩) hn
end
def seeR (s : ByteArray) (l : List ByteArray) : Int := if nameB s = false then 6 else if memB s l = true then 4 else 0
def seeL (s : ByteArray) (l : List ByteArray) : List ByteArray := if nameB s = true ∧ memB s l = false then l ++ [s] else l
theorem gw_see (b : Nat) (s : ByteArray) (l : List ByteArray) (w : World) (ents : Array MapEntry) (clock : Nat) (hb : w.heap[b]? = some (.map ents clock)) (he : ents.toList.map (fun e => (e.key, e.val)) = nmE l) (hst : MapKept.Stamped ents clock) :
    Calls Tryd.prog 66 #[.map (some b), .string s] w fun e w' => e = .returned (.int .i64 (seeR s l)) ∧ ∃ ents' clock', MapT w w' b ents' clock' ∧ ents'.toList.map (fun e => (e.key, e.val)) = nmE (seeL s l) ∧ MapKept.Stamped ents' clock' := by
  have hlt : b < w.heap.size := by
    rcases Nat.lt_or_ge b w.heap.size with h' | h'
    · exact h'
    · simp [Array.getElem?_eq_none h'] at hb
  have stay : ∀ w', Below w.heap.size w w' → MapT w w' b ents clock := fun w' h => ⟨h.os, h.tape, h.output, h.size, fun j hj _ => h.block j hj, by rw [h.block b hlt]; exact hb⟩
  go_enter Tryd.func66, Tryd.ntmps66
  go_wp2_with (go_at_call 77; refine (gw_name s w).mono ?_)
  rintro e w1 ⟨rfl, hbel⟩
  have hb1 : w1.heap[b]? = some (.map ents clock) := by rw [hbel.block b hlt]; exact hb
  cases hn : nameB s with
  | false =>
    go_wp2
    go_ret
    exact ⟨by simp [seeR, hn], ents, clock, stay _ hbel, by simpa [seeL, hn] using he, hst⟩
  | true =>
    have hlk := run_lookup_nm (s := s) hb1 he
    by_cases hs : s ∈ l
    · have hm := memB_iff.2 hs
      rw [hm] at hlk
      go_wp2
      go_ret
      exact ⟨by simp [seeR, hn, hm], ents, clock, stay _ hbel, by simpa [seeL, hm] using he, hst⟩
    · have hm := memB_false.2 hs
      rw [hm] at hlk
      have hup := run_update_nm (s := s) hb1 he hs
      go_wp2
      go_ret
      refine ⟨by simp [seeR, hn, hm], ents.push { key := .string s, val := .bool true, born := clock }, clock + 1, ⟨hbel.os, hbel.tape, hbel.output, ?_, fun j hj hne => ?_, ?_⟩, ?_, MapKept.stamped_push hst ?_⟩
      · simpa using hbel.size
      · simp only [(MapKept.heap_set hb1).2 j hne, hbel.block j hj]
      · exact (MapKept.heap_set hb1).1
      · simp only [Array.toList_push, List.map_append, he, seeL, hn, hm, and_self, if_true, nmE, List.map_cons, List.map_nil]
      · intro x hx hk
        exact hs ((nm_mem he).2 ⟨x, hx, hk⟩)
theorem c200 (b : Nat) (s : ByteArray) (l : List ByteArray) {Q : AV → Al → Prop} (h : Q (.v (.int .i64 (seeR s l))) [(9000, .ext (MapB b (nmE (seeL s l))))]) :
    ACalls Tryd.prog 66 [(9000, .ext (MapB b (nmE l)))] [.v (.map (some b)), .v (.string s)] Q :=
  ACalls.map (vs := [.map (some b), .string s]) rfl (fun w ents clock h1 h2 h3 => gw_see b s l w ents clock h1 h2 h3) h
end Go.Proofs.YthlehngbadianaaDoor.Ow
