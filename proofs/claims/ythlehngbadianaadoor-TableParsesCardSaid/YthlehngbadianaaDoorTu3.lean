/- What the functions of the program do, each once: contracts of the logic (part u3). -/
import Derived.Test.YthlehngbadianaaDoorTu1u2
import Derived.Test.YthlehngbadianaaDoorTn4
import Derived.WalkKit
import Derived.Lib.Strings
import Derived.Lib.Walk
import Derived.Laws.Externs
import Derived.LoopTactic
import Derived.Lib.OthersKept
set_option linter.unusedVariables false
set_option linter.unusedSimpArgs false
set_option linter.unnecessarySimpa false
set_option maxRecDepth 100000
set_option maxHeartbeats 4000000
namespace Go.Proofs.YthlehngbadianaaDoor.Ow
open Go Go.RowKit Go.Proofs
section
variable {w : World} {b : Nat} {s : ByteArray} {l : List ByteArray} {ents : Array MapEntry} {clock : Nat}
theorem run_lookup_268 (hb : w.heap[b]? = some (.map ents clock)) (he : ents.toList.map (fun e => (e.key, e.val)) = nmE l) : (Instr.lookup 125 (.map (some b)) (.string s) false).run Tryd.prog w = .ok (.bool (memB s l)) w := by
  have hks : MapKept.IsKey .string (.string s) := trivial
  have hz : (zeroValue 4).run Tryd.prog w = .ok (.bool false) w := rfl
  rcases MapKept.findNow_spec hks ents.toList 0 (fun x hx => (nm_keys he x hx).1) with ⟨h1, h2⟩ | ⟨j, e, h1, h2, h3⟩
  · have hm : memB s l = false := by
      rw [memB_false]
      rw [nm_mem he]
      rintro ⟨x, hx, hk⟩
      exact h2 x hx hk
    rw [hm]
    simp [Instr.lookup, run_underlying Tryd.underlying125, MapKept.run_getObj_map hb, MapKept.run_checkKey Tryd.underlying9 hks, MapKept.run_findKey Tryd.underlying9 h1, Result.andThen, hz]
  · have hm : memB s l = true := memB_iff.2 <| (nm_mem he).2 <| by
      exact ⟨e, List.mem_of_getElem? h2, h3⟩
    have hv := (nm_keys he e (List.mem_of_getElem? h2)).2
    rw [hm]
    simp [Instr.lookup, run_underlying Tryd.underlying125, MapKept.run_getObj_map hb, MapKept.run_checkKey Tryd.underlying9 hks, MapKept.run_findKey Tryd.underlying9 h1, Result.andThen, hv]
theorem run_update_268 (hb : w.heap[b]? = some (.map ents clock)) (he : ents.toList.map (fun e => (e.key, e.val)) = nmE l) (hn : s ∉ l) : (Instr.mapUpdate 125 (.map (some b)) (.string s) (.bool true)).run Tryd.prog w = .ok () { w with heap := w.heap.setIfInBounds b (.map (ents.push { key := .string s, val := .bool true, born := clock }) (clock + 1)) } := by
  have hks : MapKept.IsKey .string (.string s) := trivial
  rcases MapKept.findNow_spec hks ents.toList 0 (fun x hx => (nm_keys he x hx).1) with ⟨h1, h2⟩ | ⟨j, e, h1, h2, h3⟩
  · simp [Instr.mapUpdate, run_underlying Tryd.underlying125, MapKept.run_getObj_map hb, MapKept.run_checkKey Tryd.underlying9 hks, MapKept.run_findKey Tryd.underlying9 h1, MapKept.run_setObj_map _ hb, Result.andThen]
  · exact absurd ((nm_mem he).2 ⟨e, List.mem_of_getElem? h2, h3⟩) hn
end
theorem cellB {W : World} {B : Nat} {arr : Array Value} {t : TypeId} {fz : Nat × Nat} (h : W.heap[B]? = some (.cells arr t fz)) (i : Nat) (v : Value) (hv : arr[i]? = some v) : W.cell? ⟨B, i, none⟩ = some v := by simp [World.cell?, h, hv]
/-- What a call of relays holds. -/
structure RelI (w : World) (r0 r1 s0 s1 s2 s3 : Value) (names : List ByteArray) (W : World) : Prop where
  ex : ∃ (ents : Array MapEntry) (clock : Nat), W.heap[w.heap.size + 1 + 1]? = some (.map ents clock) ∧ ents.toList.map (fun e => (e.key, e.val)) = nmE names ∧ MapKept.Stamped ents clock
  p : W.heap[w.heap.size]? = some (.cells #[r0, r1] 40 (0, 0))
  g : W.heap[w.heap.size + 1]? = some (.cells #[s0, s1, s2, s3] 48 (0, 0))
  sz : w.heap.size + 3 ≤ W.heap.size
  bel : Below w.heap.size w W
theorem RelI.first (w : World) (r0 r1 s0 s1 s2 s3 : Value) : RelI w r0 r1 s0 s1 s2 s3 [] (((w.alloc (.cells #[r0, r1] 40)).alloc (.cells #[s0, s1, s2, s3] 48)).alloc (.map #[] 0)) := by
  refine ⟨⟨#[], 0, ?_, rfl, MapKept.stamped_empty 0⟩, ?_, ?_, by simp, (((Below.refl _ w).alloc (Nat.le_refl _) _).alloc (by simp) _).alloc (by simp; omega) _⟩
  · have := heap_alloc_new ((w.alloc (.cells #[r0, r1] 40)).alloc (.cells #[s0, s1, s2, s3] 48)) (.map #[] 0)
    rwa [World.size_alloc, World.size_alloc] at this
  · rw [Below.heap_alloc _ _ _ (by simp; omega), Below.heap_alloc _ _ _ (by simp)]
    exact heap_alloc_new w _
  · rw [Below.heap_alloc _ _ _ (by simp)]
    have := heap_alloc_new (w.alloc (.cells #[r0, r1] 40)) (.cells #[s0, s1, s2, s3] 48)
    rwa [World.size_alloc] at this
theorem RelI.after {w : World} {r0 r1 s0 s1 s2 s3 : Value} {names : List ByteArray} {W W' : World} (h : RelI w r0 r1 s0 s1 s2 s3 names W) (hb : Below W.heap.size W W') : RelI w r0 r1 s0 s1 s2 s3 names W' := by
  have hs := h.sz
  obtain ⟨e, c, h1, h2, h3⟩ := h.ex
  exact ⟨⟨e, c, (hb.block _ (by omega)).trans h1, h2, h3⟩, (hb.block _ (by omega)).trans h.p, (hb.block _ (by omega)).trans h.g, Nat.le_trans h.sz hb.size, h.bel.trans (hb.mono h.bel.size)⟩
theorem RelI.alloc {w : World} {r0 r1 s0 s1 s2 s3 : Value} {names : List ByteArray} {W : World} (h : RelI w r0 r1 s0 s1 s2 s3 names W) (o : Obj) : RelI w r0 r1 s0 s1 s2 s3 names (W.alloc o) := h.after ((Below.refl _ W).alloc (Nat.le_refl _) o)
theorem RelI.put {w : World} {r0 r1 s0 s1 s2 s3 : Value} {names : List ByteArray} {W : World} (h : RelI w r0 r1 s0 s1 s2 s3 names W) {ents : Array MapEntry} {clock : Nat} (h1 : W.heap[w.heap.size + 1 + 1]? = some (.map ents clock)) (h2 : ents.toList.map (fun e => (e.key, e.val)) = nmE names) (h3 : MapKept.Stamped ents clock) {s : ByteArray} (hn : s ∉ names) :
    RelI w r0 r1 s0 s1 s2 s3 (names ++ [s]) { W with heap := W.heap.setIfInBounds (w.heap.size + 1 + 1) (.map (ents.push { key := .string s, val := .bool true, born := clock }) (clock + 1)) } := by
  have hset := MapKept.heap_set (o' := .map (ents.push { key := .string s, val := .bool true, born := clock }) (clock + 1)) h1
  refine ⟨⟨_, _, hset.1, ?_, MapKept.stamped_push h3 ?_⟩, ?_, ?_, by simpa using h.sz, ⟨h.bel.os, h.bel.tape, h.bel.output, ?_, fun j hj => ?_⟩⟩
  · simp only [Array.toList_push, List.map_append, h2, nmE, List.map_cons, List.map_nil]
  · intro x hx hk
    exact hn ((nm_mem h2).2 ⟨x, hx, hk⟩)
  · exact (hset.2 _ (by omega)).trans h.p
  · exact (hset.2 _ (by omega)).trans h.g
  · simpa using h.bel.size
  · exact (hset.2 _ (by omega)).trans (h.bel.block j hj)
def relE : List ByteArray → List ByteArray → Int
  | _, [] => 0
  | sn, s :: r => if nameB s = false then 6 else if memB s sn = true then 4 else relE (sn ++ [s]) r
/-- Names, each once. -/
def onceN (l : List ByteArray) : Prop := ∀ (i : Nat) s, l[i]? = some s → s ∉ l.take i
theorem gw_rel (re : List ByteArray) (cl : List Cl) (hon : onceN (cl.map (·.1))) (hl1 : re.length ≤ 1000) (hl2 : cl.length ≤ 1000) (oa ob : Option Addr) (ca cb : Nat) (r1 s1 s2 s3 : Value) (w : World)
    (hre : re ≠ [] → ∃ B o, oa = some ⟨B, o, none⟩ ∧ B < w.heap.size ∧ ∀ (i : Nat) s, re[i]? = some s → w.cell? ⟨B, o + i, none⟩ = some (.string s))
    (hcl : cl ≠ [] → ∃ B o, ob = some ⟨B, o, none⟩ ∧ B < w.heap.size ∧ ∀ (i : Nat) (c : Cl), cl[i]? = some c → w.cell? ⟨B, o + i * 2, none⟩ = some (.string c.1) ∧ w.cell? ⟨B, o + i * 2 + 1, none⟩ = some (.int .i64 c.2)) :
    Calls Tryd.prog 49 #[.agg #[.slice oa re.length ca, r1], .agg #[.slice ob cl.length cb, s1, s2, s3]] w fun e w' => e = .returned (.int .i64 (relE (cl.map (·.1)) re)) ∧ Below w.heap.size w w' := by
  have hI0 := RelI.first w (.slice oa re.length ca) r1 (.slice ob cl.length cb) s1 s2 s3
  have hmk : ∀ W : World, Sem.run Tryd.prog (Instr.makeMap 125 none) W = .ok (.map (some W.heap.size)) (W.alloc (.map #[] 0)) := fun W => rfl
  go_enter Tryd.func49, Tryd.ntmps49
  go_wp2
  go_loopw [14] (fun i wr => ∃ k : Nat, k ≤ cl.length ∧ i = .int .i64 k ∧ RelI w (.slice oa re.length ca) r1 (.slice ob cl.length cb) s1 s2 s3 ((cl.map (·.1)).take k) wr) (fun i _ => cl.length - (intOf i).toNat)
  case atStart => exact ⟨0, Nat.zero_le _, rfl, hI0⟩
  case round =>
    obtain ⟨k, hk, rfl, hI⟩ := hrel
    by_cases hlt : k < cl.length
    · obtain ⟨B, o, rfl, hB, hcs⟩ := hcl (by intro e; rw [e] at hlt; simp at hlt)
      obtain ⟨c, hc⟩ : ∃ c, cl[k]? = some c := ⟨_, List.getElem?_eq_getElem hlt⟩
      have c1 := (hI.bel.cell (p := ⟨B, o + k * 2, none⟩) hB).trans (hcs k c hc).1
      have c2 := (hI.bel.cell (p := ⟨B, o + k * 2 + 1, none⟩) hB).trans (hcs k c hc).2
      obtain ⟨ents, clock, e1, e2, e3⟩ := (hI.alloc (.cells #[.string c.1, .int .i64 c.2] 76)).ex
      have hn : c.1 ∉ (cl.map (·.1)).take k := hon k c.1 (by rw [List.getElem?_map, hc]; rfl)
      have hup := run_update_268 e1 e2 hn
      have hput := (hI.alloc (.cells #[.string c.1, .int .i64 c.2] 76)).put e1 e2 e3 hn
      go_wp2
      refine ⟨⟨k + 1, by omega, by simp, ?_⟩, by simp [intOf]; omega⟩
      have htk : List.take (k + 1) (cl.map (·.1)) = List.take k (cl.map (·.1)) ++ [c.1] := by
        rw [List.take_add_one, List.getElem?_map, hc]; rfl
      rw [htk]
      exact hput
    · obtain rfl : k = cl.length := by omega
      have hpp := cellB hI.p 0 _ rfl
      have htk : List.take cl.length (cl.map (·.1)) = cl.map (·.1) := List.take_of_length_le (by simp)
      rw [htk] at hI
      go_wp2
      go_loopw [25] (fun i wr => ∃ k : Nat, k ≤ re.length ∧ i = .int .i64 k ∧ RelI w (.slice oa re.length ca) r1 (.slice ob cl.length cb) s1 s2 s3 (cl.map (·.1) ++ re.take k) wr ∧ relE (cl.map (·.1)) re = relE (cl.map (·.1) ++ re.take k) (re.drop k)) (fun i _ => re.length - (intOf i).toNat)
      case atStart => exact ⟨0, Nat.zero_le _, rfl, by simpa using hI, by simp⟩
      case round =>
        obtain ⟨k, hk, rfl, hI2, hE⟩ := hrel
        by_cases hlt : k < re.length
        · obtain ⟨B, o, rfl, hB, hcs⟩ := hre (by intro e; rw [e] at hlt; simp at hlt)
          obtain ⟨s, hs⟩ : ∃ s, re[k]? = some s := ⟨_, List.getElem?_eq_getElem hlt⟩
          have c1 := (hI2.bel.cell (p := ⟨B, o + k, none⟩) hB).trans (hcs k s hs)
          have hdr : re.drop k = s :: re.drop (k + 1) := by
            obtain ⟨h1, h2⟩ := List.getElem?_eq_some_iff.1 hs
            rw [List.drop_eq_getElem_cons h1, h2]
          have htk : List.take (k + 1) re = List.take k re ++ [s] := by
            rw [List.take_add_one, hs]; rfl
          rw [hdr, relE] at hE
          go_wp2_with (go_at_call 77; refine (gw_name s _).mono ?_)
          rintro e w1 ⟨rfl, hb⟩
          have hI3 := hI2.after hb
          obtain ⟨ents, clock, e1, e2, e3⟩ := hI3.ex
          cases hnb : nameB s with
          | false =>
            rw [if_pos hnb] at hE
            go_wp2
            go_ret
            exact ⟨by rw [hE]; rfl, hI3.bel⟩
          | true =>
            rw [if_neg (by rw [hnb]; simp)] at hE
            have hlk := run_lookup_268 (s := s) e1 e2
            by_cases hm : memB s (cl.map (·.1) ++ re.take k) = true
            · rw [hm] at hlk
              rw [if_pos hm] at hE
              go_wp2
              go_ret
              exact ⟨by rw [hE]; rfl, hI3.bel⟩
            · have hm' : memB s (cl.map (·.1) ++ re.take k) = false := by simpa using hm
              rw [hm'] at hlk
              rw [if_neg hm] at hE
              have hn := memB_false.1 hm'
              have hup := run_update_268 e1 e2 hn
              have hput := hI3.put e1 e2 e3 hn
              rw [List.append_assoc, ← htk] at hE hput
              go_wp2
              exact ⟨⟨k + 1, by omega, by simp, hput, hE⟩, by simp [intOf]; omega⟩
        · obtain rfl : k = re.length := by omega
          rw [List.drop_length, relE] at hE
          go_wp2
          go_ret
          exact ⟨by rw [hE]; rfl, hI2.bel⟩
theorem lst_oa {W : World} {F : Fp} {es : Nat} {xs : List AV} {v : Value} (h : Rep W F (.lst es xs) v E0) : ∃ oa cap, v = .slice oa xs.length cap ∧
    (xs ≠ [] → ∃ B o, oa = some ⟨B, o, none⟩ ∧ 0 < es ∧ ∀ (i : Nat) x, xs[i]? = some x → x.cells.length = es ∧ ∀ (j : Nat) c, x.cells[j]? = some c → ∃ u, W.cell? ⟨B, o + i * es + j, none⟩ = some u ∧ Rep W F c u E0) := by
  cases h with
  | lstN hT => exact ⟨_, 0, rfl, fun h => absurd rfl h⟩
  | lst u hes hcap hlen hc hf hr hT => exact ⟨_, _, rfl, fun _ => ⟨_, _, rfl, hes, fun i x hx => ⟨hlen i x hx, fun j c hj => ⟨_, hc i x j c hx hj, hr i x j c hx hj⟩⟩⟩⟩
theorem blk_lt {W : World} {p : Addr} {u : Value} (h : W.cell? p = some u) : p.block < W.heap.size := by
  unfold World.cell? at h
  rcases Nat.lt_or_ge p.block W.heap.size with h' | h'
  · exact h'
  · rw [Array.getElem?_eq_none h'] at h; cases h
theorem agg2_of {W : World} {F : Fp} {env : Nat → RLoc} {rt : Al} {e1 e2 : Nat} {l1 l2 : List AV} {v : Value} (h : SV W F env rt (.agg [.lst e1 l1, .lst e2 l2]) v) : ∃ s0 s1, v = .agg #[s0, s1] ∧ Rep W F (.lst e1 l1) s0 E0 ∧ Rep W F (.lst e2 l2) s1 E0 := by
  obtain ⟨us, rfl, hs, hc⟩ := h
  have hs2 : us.size = 2 := hs
  have h0 : Rep W F (.lst e1 l1) us[0] E0 := hc 0 _ us[0] rfl (by simp)
  have h1 : Rep W F (.lst e2 l2) us[1] E0 := hc 1 _ us[1] rfl (by simp)
  refine ⟨us[0], us[1], ?_, h0, h1⟩
  congr 1
  apply Array.ext_getElem?
  intro i
  match i with
  | 0 => simp [hs2]
  | 1 => simp [hs2]
  | i + 2 => rw [Array.getElem?_eq_none (by omega), Array.getElem?_eq_none (by simp)]
theorem c164 (p : Pn) (g : Gr) (hon : onceN (g.cl.map (·.1))) (hl1 : p.re.length ≤ 1000) (hl2 : g.cl.length ≤ 1000) {Q : AV → Al → Prop} (h : Q (i64A (relE (g.cl.map (·.1)) p.re)) []) : ACalls Tryd.prog 49 [] [plA p, gA g] Q := by
  refine ACalls.kit rfl ?_ h
  intro I w F env vals hl hv
  obtain ⟨pv, p1, p2⟩ := hv 0 _ rfl
  obtain ⟨gv, g1, g2⟩ := hv 1 _ rfl
  obtain ⟨r0, r1, rfl, hr0, hr1⟩ := agg2_of p2
  obtain ⟨s0, s1, s2, s3, rfl, hs0, hs1, hs2, hs3⟩ := (GrV.of g2).val
  have hvals : vals = #[.agg #[r0, r1], .agg #[s0, s1, s2, s3]] := by
    apply Array.ext_getElem?
    intro i
    match i with
    | 0 => rw [p1]; rfl
    | 1 => rw [g1]; rfl
    | i + 2 => rw [Array.getElem?_eq_none (by rw [hl]; simp), Array.getElem?_eq_none (by simp)]
  subst hvals
  obtain ⟨oa, ca, rfl, ha⟩ := lst_oa hr0
  obtain ⟨ob, cb, rfl, hb⟩ := lst_oa hs0
  simp only [List.length_map, ne_eq, List.map_eq_nil_iff] at ha hb ⊢
  refine gw_rel p.re g.cl hon hl1 hl2 oa ob ca cb r1 s1 s2 s3 w ?_ ?_
  · intro hne
    obtain ⟨B, o, rfl, hes, hx⟩ := ha hne
    have key : ∀ (i : Nat) s, p.re[i]? = some s → w.cell? ⟨B, o + i, none⟩ = some (.string s) := by
      intro i s hs
      obtain ⟨u, h1, h2⟩ := (hx i (nmA s) (by rw [List.getElem?_map, hs]; rfl)).2 0 _ rfl
      rw [rep_v h2] at h1
      simpa using h1
    refine ⟨B, o, rfl, ?_, key⟩
    obtain ⟨s, hs⟩ : ∃ s, p.re[0]? = some s := by
      cases hp : p.re with
      | nil => exact absurd hp hne
      | cons s r => exact ⟨s, rfl⟩
    exact blk_lt (key 0 s hs)
  · intro hne
    obtain ⟨B, o, rfl, hes, hx⟩ := hb hne
    have key : ∀ (i : Nat) (c : Cl), g.cl[i]? = some c → w.cell? ⟨B, o + i * 2, none⟩ = some (.string c.1) ∧ w.cell? ⟨B, o + i * 2 + 1, none⟩ = some (.int .i64 c.2) := by
      intro i c hc
      have hh := (hx i (clA c) (by rw [List.getElem?_map, hc]; rfl)).2
      obtain ⟨u, h1, h2⟩ := hh 0 _ rfl
      obtain ⟨u', h3, h4⟩ := hh 1 _ rfl
      rw [rep_v h2] at h1
      rw [rep_v h4] at h3
      exact ⟨by simpa using h1, h3⟩
    refine ⟨B, o, rfl, ?_, key⟩
    obtain ⟨s, hs⟩ : ∃ s, g.cl[0]? = some s := by
      cases hp : g.cl with
      | nil => exact absurd hp hne
      | cons s r => exact ⟨s, rfl⟩
    exact blk_lt (key 0 s hs).1
end Go.Proofs.YthlehngbadianaaDoor.Ow
