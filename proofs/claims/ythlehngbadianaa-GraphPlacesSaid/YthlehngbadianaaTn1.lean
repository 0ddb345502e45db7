/- What the functions of the program do, each once: contracts of the logic (part n1). -/
import Derived.RangeFuncBox
import Derived.RangeFuncNested
import Derived.RangeFuncBound
import Derived.RangeFuncCalls
import Derived.RangeFuncLeaves
import Derived.Shelf.Abstract
import Derived.Shelf.RegionOpen
import Derived.WalkKit
import Derived.OwnWalkIn
import Derived.TacticsInMore
import Derived.LoopNIn
import Derived.LoopIn
import Derived.Test.YthlehngbadianaaProg
set_option linter.unusedVariables false
set_option linter.unusedSimpArgs false
set_option linter.unnecessarySimpa false
namespace Go.Proofs.Ythlehngbadianaa.Ow
open Go Go.Proofs Go.RowKit Go.Shelf
attribute [local go_sem] Oper.semAt_some
def bkU {α : Type} (f : Nat → α) (k : Nat) : List α := (List.range k).map f
theorem bkU_succ {α : Type} (f : Nat → α) (k : Nat) : bkU f (k + 1) = bkU f k ++ [f k] := by simp [bkU, List.range_succ]
theorem bkU_len {α : Type} (f : Nat → α) (k : Nat) : (bkU f k).length = k := by simp [bkU]
/-- The k-th from behind. -/
def bkF (len : Nat) (zs : List Int) (k : Nat) : Nat × Int := (len - 1 - k, zs[len - 1 - k]?.getD 0)
/-- Two blocks' cells are kept. -/
def Kp2 (Bs b : Nat) (W W' : World) : Prop := ∀ (p : Addr) v, (p.block = Bs ∨ p.block = b) → W.cell? p = some v → W'.cell? p = some v
theorem Kp2.refl (Bs b : Nat) (W : World) : Kp2 Bs b W W := fun _ _ _ h => h
theorem Kp2.trans {Bs b : Nat} {A B C : World} (h : Kp2 Bs b A B) (k : Kp2 Bs b B C) : Kp2 Bs b A C := fun p v hp hv => k p v hp (h p v hp hv)
theorem Kp2.put {Bs b : Nat} {N : Nat} (W : World) (l : Nat) (o o' : Obj) (_ : N ≤ l) (h : W.heap[l]? = some o) (hc : o.isCells = false) (_ : o.isWalk = false) : Kp2 Bs b W (W.putObj l o') :=
  fun p v _ hv => cell_kept hv (grownBy_putObj' W l o') (fun r e => by cases e; exact ⟨_, h, hc⟩)
theorem Kp2.set {Bs b : Nat} (W : World) (q : Addr) (x : Value) (h1 : q.block ≠ Bs) (h2 : q.block ≠ b) : Kp2 Bs b W (W.setCell q x) := by
  intro p v hp hv
  rw [World.cell?_setCell_other (h := fun e => by subst e; rcases hp with h | h <;> contradiction)]
  exact hv
set_option maxRecDepth 100000 in
set_option maxHeartbeats 2000000 in
theorem back1_in (F : Fence) (n : Nat) (h7 : F.fn 197) (hro : F.round = none) (hn : 1 ≤ n) (l Bs b off len cap : Nat) (zs : List Int) (hreach : len ≤ 3) (J Jx : List (Nat × Int) → World → Prop)
    (hY : ∀ pre x W, J pre W → pre.length < len → YieldAt F (n - 1) Try.prog l #[.int .i64 (x.1 : Int), .int .u32 x.2] W fun e W' =>
      (e = .returned (.bool true) ∧ J (pre ++ [x]) W' ∧ Kp2 Bs b W W') ∨ (e = .returned (.bool false) ∧ Jx (pre ++ [x]) W'))
    (W : World) (hBs : W.cell? ⟨Bs, 0, none⟩ = some (.slice (some ⟨b, off, none⟩) len cap)) (hc : ∀ j, j < len → W.cell? ⟨b, off + j, none⟩ = some (.int .u32 (zs[j]?.getD 0))) (h0 : J [] W) :
    CallsIn F n Try.prog 197 #[.func (.yield l) #[] #[], .pointer (some ⟨Bs, 0, none⟩)] W fun e W' => (∃ v, e = .returned v) ∧
      ((∃ ys, ys = bkU (bkF len zs) len ∧ J ys W') ∨ (∃ pre, (∃ k, k ≤ len ∧ pre = bkU (bkF len zs) k) ∧ Jx pre W')) := by
  refine callsIn_of_wp Try.func197 rfl h7 ?_ hro
  simp only [Try.ntmps197, List.size_toArray, List.length_cons, List.length_nil, Nat.reduceAdd, Nat.reduceSub, Array.replicate_succ, Array.replicate_zero, List.push_toArray, List.append_toArray, List.nil_append, List.cons_append]
  gi_wp2
  gi_loopw [3] (fun i wr => ∃ m : Nat, m ≤ len ∧ i = .int .i64 ((m : Int) - 1) ∧ J (bkU (bkF len zs) (len - m)) wr ∧ Kp2 Bs b W wr)
    (fun i _ => (intOf i + 1).toNat)
  case atStart => exact ⟨len, Nat.le_refl _, by simp, by simpa [bkU] using h0, Kp2.refl _ _ _⟩
  case round =>
    obtain ⟨m, hm, rfl, hJs, hnx⟩ := hrel
    have hBs' := hnx _ _ (.inl rfl) hBs
    rcases m with _ | m
    · have e0 : ((0 : Nat) : Int) - 1 = -1 := rfl
      rw [e0]
      gi_wp2
      go_end0
      exact ⟨⟨_, rfl⟩, .inl ⟨_, rfl, hJs⟩⟩
    · have e0 : ((m + 1 : Nat) : Int) - 1 = (m : Int) := by omega
      rw [e0]
      have hcx := hnx _ _ (.inr rfl) (hc m (by omega))
      have hf : bkF len zs (len - (m + 1)) = (m, zs[m]?.getD 0) := by
        unfold bkF
        rw [show len - 1 - (len - (m + 1)) = m from by omega]
      obtain ⟨fn, tmps, assign, body, hy, hR⟩ := hY _ (m, zs[m]?.getD 0) wr hJs (by rw [bkU_len]; omega)
      have hup : bkU (bkF len zs) (len - m) = bkU (bkF len zs) (len - (m + 1)) ++ [(m, zs[m]?.getD 0)] := by
        rw [show len - m = len - (m + 1) + 1 from by omega, bkU_succ, hf]
      dsimp only at hy
      gi_wp2
      refine hR.mono ?_
      rintro e W3 (⟨rfl, hJ3, hk3⟩ | ⟨rfl, hJx3⟩)
      · gi_wp2
        go_roundw
        case rel => exact ⟨m, by omega, by first | rfl | simp, by rw [hup]; exact hJ3, hnx.trans hk3⟩
        case measure => simp [intOf]
      · gi_wp2
        refine bodyPost_ret (results_none rfl _ _ _) rfl ?_
        exact ⟨⟨_, rfl⟩, .inr ⟨_, ⟨len - m, by omega, hup.symm⟩, hJx3⟩⟩
set_option maxHeartbeats 1000000 in
theorem back_in (F : Fence) (n : Nat) (h5 : F.fn 140) (hro : F.round = none) (a : Option Addr) (len cap : Nat) (w : World) :
    CallsIn F n Try.prog 140 #[.slice a len cap] w fun e w' => e = .returned (.func (.func 197) #[] #[.pointer (some ⟨w.heap.size, 0, none⟩)]) ∧ w' = w.alloc (.cells #[.slice a len cap] 211) := by
  refine callsIn_of_wp Try.func140 rfl h5 ?_ hro
  simp only [Try.ntmps140, List.size_toArray, List.length_cons, List.length_nil, Nat.reduceAdd, Nat.reduceSub, Array.replicate_succ, Array.replicate_zero, List.push_toArray, List.append_toArray, List.nil_append, List.cons_append]
  gi_wp2
  go_ret
  exact ⟨rfl, rfl⟩
theorem back_stops (F : Fence) (n : Nat) (h7 : F.fn 197) (hro : F.round = none) (hn : 1 ≤ n) (Bs b off cap : Nat) (zs : List Int) (hreach : zs.length ≤ 3) (w : World) (hBs : Bs < w.heap.size) (hb : b < w.heap.size)
    (hc : w.cell? ⟨Bs, 0, none⟩ = some (.slice (some ⟨b, off, none⟩) zs.length cap)) (hI : ∀ j, j < zs.length → w.cell? ⟨b, off + j, none⟩ = some (.int .u32 (zs[j]?.getD 0))) :
    SeqStopsK F n Try.prog 197 #[.pointer (some ⟨Bs, 0, none⟩)] (fun x : Nat × Int => #[Value.int .i64 (x.1 : Int), Value.int .u32 x.2]) (Kp2 Bs b) (fun ys => ys = bkU (bkF zs.length zs) zs.length)
      (fun pre => ∃ k, k ≤ zs.length ∧ pre = bkU (bkF zs.length zs) k) zs.length w := fun l J Jx W hW _ _ hY h0 =>
  back1_in F n h7 hro hn l Bs b off zs.length cap zs hreach J Jx hY W ((hW.cell (p := ⟨Bs, 0, none⟩) hBs).trans hc) (fun j hj => (hW.cell (p := ⟨b, off + j, none⟩) hb).trans (hI j hj)) h0
end Go.Proofs.Ythlehngbadianaa.Ow
