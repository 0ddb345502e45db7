/- What the functions of the program do, each once: contracts of the logic (part bw). -/
import Derived.Test.YthlehngbadianaaOwBld
import Derived.Test.YthlehngbadianaaProg
import Derived.WalkKit
import Derived.Lib.Builder
import Derived.Lib.Strings
import Derived.Lib.Walk
import Derived.Laws.Externs
set_option linter.unusedVariables false
set_option linter.unusedSimpArgs false
set_option linter.unnecessarySimpa false
set_option maxRecDepth 100000
set_option maxHeartbeats 1000000
namespace Go.Proofs.Ythlehngbadianaa.Ow
open Go Go.RowKit Go.Proofs
theorem bw_used (b : Nat) (w : World) (h0 : w.cell? ⟨b, 0, none⟩ = some (.pointer (some ⟨b, 0, none⟩))) :
    Calls Try.prog 190 #[.pointer (some ⟨b, 0, none⟩)] w fun e w' => e = .returned (.tuple #[]) ∧ w' = w := by
  obtain ⟨j, hj⟩ : ∃ j, Try.prog.info? 174 = some j := ⟨_, rfl⟩
  go_enter Try.func190, Try.ntmps190
  go_wp2
  rw [Lib.run_neq_ptr_same w _ Try.underlying171 hj]
  go_wp2
  go_end0
  exact ⟨rfl, rfl⟩
theorem bw_fresh (b : Nat) (w : World) (h0 : w.cell? ⟨b, 0, none⟩ = some (.pointer none)) (hsh : w.shape? b = some (174, 2)) (hfz : w.frozen? ⟨b, 0, none⟩ = false) :
    Calls Try.prog 190 #[.pointer (some ⟨b, 0, none⟩)] w fun e w' => e = .returned (.tuple #[]) ∧ w' = w.setCell ⟨b, 0, none⟩ (.pointer (some ⟨b, 0, none⟩)) := by
  obtain ⟨j, hj, hjs⟩ : ∃ j, Try.prog.info? 174 = some j ∧ j.size = 2 := ⟨_, rfl, rfl⟩
  go_enter Try.func190, Try.ntmps190
  go_wp2
  rw [Lib.run_to_unsafe w ⟨b, 0, none⟩ Try.underlying171 Try.underlying286 hj (by rw [hjs]; decide) hsh (Nat.zero_lt_succ 1)]
  simp only [Result.andThen]
  rw [Oper.upon_value]
  go_wp2
  rw [run_callFunc_extern Try.func225 (by kernel_rfl) (by kernel_rfl) (by kernel_rfl) (e := Extern.AbiNoEscape.same) (by kernel_rfl)]
  rw [Lib.run_noEscape]
  simp only [Result.andThen]
  rw [Oper.upon_value]
  go_wp2
  rw [Lib.run_from_unsafe w ⟨b, 0, none⟩ Try.underlying286 Try.underlying171 hj hsh (by kernel_rfl)]
  simp only [Result.andThen]
  rw [Oper.upon_value]
  go_wp2
  go_end0
  exact ⟨rfl, rfl⟩
theorem bw_check (b : Nat) (w : World) (p v : Value) (fz : Nat × Nat) (hb : w.heap[b]? = some (.cells #[p, v] 174 fz)) (hp : p = .pointer none ∨ p = .pointer (some ⟨b, 0, none⟩)) (hf : ¬ (fz.1 ≤ 0 ∧ 0 < fz.2)) :
    Calls Try.prog 190 #[.pointer (some ⟨b, 0, none⟩)] w fun e w1 => e = .returned (.tuple #[]) ∧ (w1 = w ∧ p = .pointer (some ⟨b, 0, none⟩) ∨ w1 = w.setCell ⟨b, 0, none⟩ (.pointer (some ⟨b, 0, none⟩))) := by
  have hc : w.cell? ⟨b, 0, none⟩ = some p := by simp [World.cell?, hb]
  rcases hp with rfl | rfl
  · refine (bw_fresh b w hc (by simp [World.shape?, hb]) ?_).mono ?_
    · simp only [World.frozen?, hb, Bool.and_eq_false_iff, decide_eq_false_iff_not]
      omega
    · rintro e w1 ⟨h1, h2⟩
      exact ⟨h1, .inr h2⟩
  · refine (bw_used b w hc).mono ?_
    rintro e w1 ⟨h1, h2⟩
    exact ⟨h1, .inl ⟨h2, rfl⟩⟩
theorem bw_write (b : Nat) (bs : List UInt8) (s : ByteArray) (w : World) (p v : Value) (fz : Nat × Nat) (hb : w.heap[b]? = some (.cells #[p, v] 174 fz)) (hp : p = .pointer none ∨ p = .pointer (some ⟨b, 0, none⟩)) (hf : ∀ i, i < 2 → ¬ (fz.1 ≤ i ∧ i < fz.2))
    (hrow : RowV w 5 bs v) (hne : v.ownBlock ≠ some b) (hlen : bs.length + s.size ≤ 140737488355328) :
    Calls Try.prog 109 #[.pointer (some ⟨b, 0, none⟩), .string s] w fun e w' => e = .returned (.tuple #[.int .i64 s.size, .nilIface]) ∧
      ∃ w1 w2 v', (w1 = w ∧ p = .pointer (some ⟨b, 0, none⟩) ∨ w1 = w.setCell ⟨b, 0, none⟩ (.pointer (some ⟨b, 0, none⟩))) ∧ AppS w1 w2 5 (bs ++ s.data.toList) v v' ∧ w' = w2.setCell ⟨b, 1, none⟩ v' := by
  obtain ⟨i0, hi, hz0, hz1, hz2⟩ : ∃ i, Try.prog.info? 5 = some i ∧ i.zero = some (.int .u8 0) ∧ i.size = 1 ∧ i.bytes = 1 := ⟨_, rfl, rfl, rfl, rfl⟩
  go_enter Try.func109, Try.ntmps109
  go_wp2_with (go_at_call 190; refine (bw_check b w p v fz hb hp (hf 0 (by omega))).mono ?_)
  rintro e w1 ⟨rfl, h1⟩
  have hb1 : w1.heap[b]? = some (.cells #[.pointer (some ⟨b, 0, none⟩), v] 174 fz) := by
    rcases h1 with ⟨rfl, rfl⟩ | rfl
    · exact hb
    · rw [heap_setCell w b 0 _ hb]; rfl
  have hrow1 : RowV w1 5 bs v := by
    rcases h1 with ⟨rfl, _⟩ | rfl
    · exact hrow
    · exact hrow.other fun g hg => heap_setCell_ne _ _ _ _ _ (fun e => hne (by rw [hg, e]))
  have c0 : w1.cell? ⟨b, 0, none⟩ = some (.pointer (some ⟨b, 0, none⟩)) := by simp [World.cell?, hb1]
  have c1 : w1.cell? ⟨b, 1, none⟩ = some v := by simp [World.cell?, hb1]
  go_wp2_with (at_builtin; refine wpList_append_row rfl _ _ 172 9 rfl 5 i0 Try.underlying172 Try.underlying9 hi hz0 hz1 hz2 v bs rfl hrow1 s rfl hlen ?_)
  intro v' w2 hap
  have hlt : b < w1.heap.size := by
    rcases Nat.lt_or_ge b w1.heap.size with h' | h'
    · exact h'
    · simp [Array.getElem?_eq_none h'] at hb1
  have hb2 : w2.heap[b]? = some (.cells #[.pointer (some ⟨b, 0, none⟩), v] 174 fz) := by rw [hap.blk b hlt hne]; exact hb1
  have d0 : w2.cell? ⟨b, 0, none⟩ = some (.pointer (some ⟨b, 0, none⟩)) := by simp [World.cell?, hb2]
  have d1 : w2.cell? ⟨b, 1, none⟩ = some v := by simp [World.cell?, hb2]
  have f1 : w2.frozen? ⟨b, 1, none⟩ = false := by
    have := hf 1 (by omega)
    simp only [World.frozen?, hb2, Bool.and_eq_false_iff, decide_eq_false_iff_not]
    omega
  obtain ⟨ao, n', cap, rfl⟩ : ∃ ao n' cap, v' = .slice ao n' cap := by
    rcases hap.row with ⟨hv, _⟩ | ⟨g, cap, cur, hv, _⟩
    · exact ⟨_, _, _, hv⟩
    · exact ⟨_, _, _, hv⟩
  go_wp2
  go_ret2
  exact ⟨rfl, w1, w2, _, h1, hap, rfl⟩
theorem bw_string (b : Nat) (l : List UInt8) (w : World) (p v : Value) (fz : Nat × Nat) (hb : w.heap[b]? = some (.cells #[p, v] 174 fz)) (hrow : RowV w 5 l v) :
    Calls Try.prog 112 #[.pointer (some ⟨b, 0, none⟩)] w fun e w' => e = .returned (.string ⟨l.toArray⟩) ∧ ((v = .slice none 0 0 ∧ w' = w.drew) ∨ ∃ g cap, v = .slice (some ⟨g, 0, none⟩) l.length cap ∧ w' = w.drew.freeze ⟨g, 0, none⟩ l.length) := by
  rcases hrow with ⟨rfl, rfl⟩ | ⟨g, cap, cur, rfl, hg, h0, hnc, hcm, hcs, htake⟩
  · have hUS : ∀ W : World, (Builtin.unsafeString_ #[256, 3] 9 #[.pointer none, .int .i64 0]).run Try.prog W = .ok (.string .empty) W := fun W => Lib.run_unsafeString_none W _ _ _ none
    have c1 : w.drew.cell? ⟨b, 1, none⟩ = some (.slice none 0 0) := by
      have hb' : w.drew.heap[b]? = some (.cells #[p, .slice none 0 0] 174 fz) := hb
      simp [World.cell?, hb']
    have hSD : ∀ W : World, (Builtin.unsafeSliceData_ #[172] 256 #[.slice none 0 0]).run Try.prog W = .ok (.pointer none) W := fun _ => rfl
    go_enter Try.func112, Try.ntmps112
    go_wp2
    go_region
    all_goals (go_wp2; go_ret; refine ⟨rfl, .inl ⟨?_, rfl⟩⟩; first | trivial | rfl)
  · have c1 : w.drew.cell? ⟨b, 1, none⟩ = some (.slice (some ⟨g, 0, none⟩) l.length cap) := by
      have hb' : w.drew.heap[b]? = some (.cells #[p, .slice (some ⟨g, 0, none⟩) l.length cap] 174 fz) := hb
      simp [World.cell?, hb']
    have hSD : (Builtin.unsafeSliceData_ #[172] 256 #[.slice (some ⟨g, 0, none⟩) l.length cap]).run Try.prog w.drew = .ok (.pointer (some ⟨g, 0, none⟩)) w.drew :=
      Lib.run_unsafeSliceData_row _ _ _ _ _ _ (by omega)
    have hl0 : l ≠ [] := by rintro rfl; simp at h0
    have hUS : (Builtin.unsafeString_ #[256, 3] 9 #[.pointer (some ⟨g, 0, none⟩), .int .i64 l.length]).run Try.prog w.drew = .ok (.string ⟨l.toArray⟩) (w.drew.freeze ⟨g, 0, none⟩ l.length) := by
      have hg' : w.drew.heap[g]? = some (.cells cur 5 (0, 0)) := hg
      refine Lib.run_unsafeString_row w.drew 256 3 9 5 Try.underlying256 (by kernel_rfl) g cur.size (by simp [World.shape?, hg']) l hl0 (by omega) (by unfold maxLen at hcm; omega) ?_
      intro j x hx
      rw [add_plain', Nat.zero_add]
      simp only [World.cell?, hg']
      have h2 : (Lib.byteCells l)[j]? = some (.int .u8 x.toNat) := by simp [Lib.byteCells, hx]
      rw [← htake, List.getElem?_take] at h2
      split at h2
      · simpa using h2
      · simp at h2
    go_enter Try.func112, Try.ntmps112
    go_wp2
    go_region
    all_goals (go_wp2; go_ret; refine ⟨rfl, .inr ⟨g, cap, ?_, rfl⟩⟩; first | trivial | rfl)
theorem wrSpec : WrSpec Try.prog 109 174 5 := fun b bs s w p v fz h1 h2 h3 h4 h5 h6 => bw_write b bs s w p v fz h1 h2 h3 h4 h5 h6
theorem strSpec : StrSpec Try.prog 112 174 5 := fun b l w p v fz h1 h2 => bw_string b l w p v fz h1 h2
theorem c109a (s : ByteArray) {rf : Rfs} (hsa : (0, 1, .sa ⟨0, [], 0⟩ 0 174 2) ∈ rf) (hlen : s.size ≤ 140737488355328) {Q : AV → Al → Rfs → Prop}
    (h : Q (.tup [.v (.int .i64 s.size), .v .nilIface]) [(0, .agg [.junk, .ext (RowB 5 s.data.toList)])] (bldRf 174)) : ACallsR Try.prog 109 [(0, .agg [.v (.pointer none), .v (.slice none 0 0)])] rf [.ref ⟨0, [], 0⟩, .v (.string s)] Q :=
  bld_write wrSpec (bs := []) (.inl rfl) (.inl ⟨rfl, rfl⟩) hsa (by simpa using hlen) h
theorem c109b (bs : List UInt8) (s : ByteArray) {rf : Rfs} (h0 : (0, 0, .ref ⟨0, [], 0⟩) ∈ rf) (hsa : (0, 1, .sa ⟨0, [], 0⟩ 0 174 2) ∈ rf) (hlen : bs.length + s.size ≤ 140737488355328) {Q : AV → Al → Rfs → Prop}
    (h : Q (.tup [.v (.int .i64 s.size), .v .nilIface]) [(0, .agg [.junk, .ext (RowB 5 (bs ++ s.data.toList))])] (bldRf 174)) : ACallsR Try.prog 109 [(0, .agg [.junk, .ext (RowB 5 bs)])] rf [.ref ⟨0, [], 0⟩, .v (.string s)] Q :=
  bld_write wrSpec (.inr ⟨rfl, h0⟩) (.inr rfl) hsa hlen h
theorem c112 (bs : List UInt8) {rf : Rfs} (hsa : (0, 1, .sa ⟨0, [], 0⟩ 0 174 2) ∈ rf) {Q : AV → Al → Rfs → Prop}
    (h : Q (.v (.string ⟨bs.toArray⟩)) [(0, .agg [.junk, .junk])] []) : ACallsR Try.prog 112 [(0, .agg [.junk, .ext (RowB 5 bs)])] rf [.ref ⟨0, [], 0⟩] Q :=
  bld_string strSpec (.inr rfl) (.inr rfl) hsa h
end Go.Proofs.Ythlehngbadianaa.Ow
