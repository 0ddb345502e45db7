/- What the functions of the program do, each once: contracts of the logic (part sp sq w1). -/
import Derived.Test.YthlehngbadianaaDoorOwWeakNil
import Derived.Test.YthlehngbadianaaDoorProg
import Derived.WalkKit
import Derived.Shelf.Strings.Split
import Derived.Shelf.Strings.Prefix
import Derived.Test.YthlehngbadianaaDoorTd1g1
set_option linter.unusedVariables false
set_option linter.unusedSimpArgs false
set_option linter.unnecessarySimpa false
set_option maxRecDepth 1000000
namespace Go.Proofs.YthlehngbadianaaDoor.Ow
open Go Go.RowKit Go.Proofs Go.Shelf
def spRen : Go.Shelf.Ren := ⟨fun | 99 => 47 | 102 => 46 | 138 => 59 | 143 => 60 | 146 => 16 | 195 => 87 | 197 => 88 | 206 => 74 | 207 => 98 | 209 => 73 | 217 => 90 | 218 => 89 | 219 => 61 | 221 => 35 | 224 => 92 | 225 => 91 | 260 => 105 | 266 => 106 | 267 => 93 | 268 => 58 | 314 => 107 | n => n, fun | 0 => 0 | 3 => 3 | 4 => 4 | 5 => 5 | 9 => 9 | 21 => 21 | 31 => 37 | 46 => 148 | 51 => 160 | 105 => 145 | 119 => 163 | 138 => 165 | 139 => 166 | 146 => 161 | n => n, fun | 1 => 0 | 3 => 1 | 4 => 2 | n => n⟩
theorem sp146 : Lays.n146 Tryd.prog spRen := {
  mixed := by kernel_rfl
  f138 := by kernel_rfl
  f143 := by kernel_rfl
  f146 := by kernel_rfl
  f195 := by kernel_rfl
  f197 := by kernel_rfl
  f217 := by kernel_rfl
  f218 := by kernel_rfl
  f219 := by kernel_rfl
  f221 := by kernel_rfl
  f224 := by kernel_rfl
  f225 := by kernel_rfl
  f260 := by kernel_rfl
  f266 := by kernel_rfl
  f267 := by kernel_rfl
  f268 := by kernel_rfl
  f314 := by kernel_rfl
  t0 := Tryd.underlying0
  a0 := Tryd.isAgg0
  z0 := Tryd.sizeOf0
  v0 := Tryd.zeroValue0
  t3 := Tryd.underlying3
  a3 := Tryd.isAgg3
  z3 := Tryd.sizeOf3
  v3 := Tryd.zeroValue3
  t4 := Tryd.underlying4
  a4 := Tryd.isAgg4
  z4 := Tryd.sizeOf4
  v4 := Tryd.zeroValue4
  t5 := Tryd.underlying5
  a5 := Tryd.isAgg5
  z5 := Tryd.sizeOf5
  v5 := Tryd.zeroValue5
  t9 := Tryd.underlying9
  a9 := Tryd.isAgg9
  z9 := Tryd.sizeOf9
  v9 := Tryd.zeroValue9
  t21 := Tryd.underlying21
  a21 := Tryd.isAgg21
  z21 := Tryd.sizeOf21
  v21 := Tryd.zeroValue21
  t31 := Tryd.underlying37
  a31 := Tryd.isAgg37
  z31 := Tryd.sizeOf37
  v31 := Tryd.zeroValue37
  t46 := Tryd.underlying148
  a46 := Tryd.isAgg148
  z46 := Tryd.sizeOf148
  v46 := Tryd.zeroValue148
  t51 := Tryd.underlying160
  a51 := Tryd.isAgg160
  z51 := Tryd.sizeOf160
  v51 := Tryd.zeroValue160
  t105 := Tryd.underlying145
  a105 := Tryd.isAgg145
  z105 := Tryd.sizeOf145
  v105 := Tryd.zeroValue145
  t119 := Tryd.underlying163
  a119 := Tryd.isAgg163
  z119 := Tryd.sizeOf163
  t138 := Tryd.underlying165
  a138 := Tryd.isAgg165
  z138 := Tryd.sizeOf165
  v138 := Tryd.zeroValue165
  t139 := Tryd.underlying166
  a139 := Tryd.isAgg166
  z139 := Tryd.sizeOf166
  v139 := Tryd.zeroValue166
  t146 := Tryd.underlying161
  a146 := Tryd.isAgg161
  z146 := Tryd.sizeOf161
  v146 := Tryd.zeroValue161
  g1 := by kernel_rfl
  g3 := by kernel_rfl
  g4 := by kernel_rfl }
theorem index_one (c : UInt8) : ∀ l : List UInt8, Lib.index l [c] = Lib.indexByte l c
  | [] => rfl
  | b :: l => by
    have ih := index_one c l
    simp only [Lib.index, Lib.indexByte, ih, List.isPrefixOf, Bool.and_true]
    by_cases h : b = c
    · subst h; simp
    · have h1 : (c == b) = false := by simpa using fun e => h e.symm
      have h2 : (b == c) = false := by simpa using h
      rw [h1, h2]
section
variable {P : Program} {ρ : Ren}
set_option maxHeartbeats 1000000 in
/-- strings.Split at one byte: no package-level variable is read. -/
theorem split_one (L : Lays.n146 P ρ) (hi9 : (P.info? (ρ.t 9)).map (fun i => (i.zero, i.size, i.bytes)) = some (some (.string ByteArray.empty), 1, 16)) (s : ByteArray) (b : UInt8) (w : World) (hs : s.size < 4294967281) :
    Calls P (ρ.f 146) #[.string s, .string ⟨#[b]⟩] w fun e w' =>
      e = .returned (.slice (some ⟨w.heap.size, 0, none⟩) (Lib.countB s ⟨#[b]⟩ + 1) (Lib.countB s ⟨#[b]⟩ + 1)) ∧ w' = w.alloc (.cells ((Lib.splitB ⟨#[b]⟩ 0 (Lib.countB s ⟨#[b]⟩) s).map Value.string).toArray (ρ.t 9)) := by
  have h1 : 1 ≤ (⟨#[b]⟩ : ByteArray).size := Nat.le_refl 1
  have hle := Lib.countB_le ⟨#[b]⟩ h1 s.size s (Nat.le_refl _)
  have hlen := Lib.splitB_all ⟨#[b]⟩ h1 0 _ s rfl
  have c := Any.strings_genSplit_core { L with } hi9 s ⟨#[b]⟩ 0 (-1) (Lib.countB s ⟨#[b]⟩ + 1) w hs h1 (Nat.zero_le _)
    (fun x cc hx => (Any.strings_Index_one { L with } x b _).mono fun e w' ⟨he, hw⟩ => ⟨by rw [he]; show _ = Ending.returned (Value.int .i64 (Lib.index x.data.toList [b])); rw [index_one], hw⟩)
    ((Any.strings_Count_one { L with } s b w).mono fun e w' ⟨he, hw⟩ => ⟨by
      rw [he]
      show _ = Ending.returned (Value.int .i64 ((Lib.count s.data.toList [b] : Nat) : Int))
      rw [Lib.count_one]
      rfl, hw⟩) (by decide) (by decide) (by rw [if_pos (by decide)]; omega)
  rw [Nat.add_sub_cancel, hlen] at c
  have e2 : Lib.cellsOf (Lib.splitB ⟨#[b]⟩ 0 (Lib.countB s ⟨#[b]⟩) s) (Lib.countB s ⟨#[b]⟩ + 1) = ((Lib.splitB ⟨#[b]⟩ 0 (Lib.countB s ⟨#[b]⟩) s).map Value.string).toArray := by rw [← hlen]; exact Lib.cellsOf_full _
  rw [e2] at c
  have t3 := L.t3; have t9 := L.t9; have t31 := L.t31
  have a3 := L.a3; have a9 := L.a9; have a31 := L.a31
  have z3 := L.z3; have v3 := L.v3; have z9 := L.z9; have v9 := L.v9; have z31 := L.z31; have v31 := L.v31
  have e221 : ∀ args w, (callFunc (ρ.f 221) args).run P w = .ok (.enter (ρ.f 221) args) w := enters_of L.f221 (by kernel_rfl) rfl
  go_enter L.f146, Body.n146_ntmps ρ
  go_wp2_with (go_at_fn (ρ.f 221); refine c.mono ?_; rintro e w' ⟨rfl, hw⟩; rw [hw])
  go_ret
  exact ⟨rfl, rfl⟩
end
/-! The pieces between one byte's instances. -/
def cutL (c : UInt8) : List UInt8 → List (List UInt8)
  | [] => [[]]
  | b :: l => if b = c then [] :: cutL c l else match cutL c l with
    | [] => [[b]]
    | x :: xs => (b :: x) :: xs
theorem cutL_no {c : UInt8} : ∀ {l : List UInt8}, c ∉ l → cutL c l = [l]
  | [], _ => rfl
  | b :: l, h => by
    simp only [List.mem_cons, not_or] at h
    rw [cutL, if_neg fun e => h.1 e.symm, cutL_no h.2]
theorem cutL_at {c : UInt8} : ∀ {l r : List UInt8}, c ∉ l → cutL c (l ++ c :: r) = l :: cutL c r
  | [], r, _ => by simp [cutL]
  | b :: l, r, h => by
    simp only [List.mem_cons, not_or] at h
    rw [List.cons_append, cutL, if_neg fun e => h.1 e.symm, cutL_at h.2]
theorem idx_no {c : UInt8} : ∀ {l : List UInt8}, c ∉ l → Lib.indexByte l c = -1
  | [], _ => rfl
  | b :: l, h => by
    simp only [List.mem_cons, not_or] at h
    have h2 : (b == c) = false := by simpa using fun e => h.1 e.symm
    simp [Lib.indexByte, h2, idx_no h.2]
theorem idx_at {c : UInt8} : ∀ {l r : List UInt8}, c ∉ l → Lib.indexByte (l ++ c :: r) c = l.length
  | [], r, _ => by simp [Lib.indexByte]
  | b :: l, r, h => by
    simp only [List.mem_cons, not_or] at h
    have h2 : (b == c) = false := by simpa using fun e => h.1 e.symm
    have h3 : ¬ ((l.length : Int) = -1) := by omega
    simp only [List.cons_append, Lib.indexByte, h2, idx_at h.2, List.length_cons, Bool.false_eq_true, if_false, beq_iff_eq, h3]
    omega
theorem splitK_one (c : UInt8) : ∀ (n : Nat) (l : List UInt8), l.length ≤ n → Lib.splitK [c] 0 (l.count c) l = cutL c l
  | n, l, hn => by
    by_cases hc : c ∈ l
    · obtain ⟨a, r, rfl, ha⟩ := List.eq_append_cons_of_mem hc
      have h0 : a.count c = 0 := List.count_eq_zero.2 ha
      have e : (a ++ c :: r).count c = r.count c + 1 := by simp [h0]
      have hi : Lib.index (a ++ c :: r) [c] = a.length := by rw [index_one, idx_at ha]
      have hne : ¬ ((a.length : Int) == -1) = true := by simp only [beq_iff_eq]; omega
      rw [e, Lib.splitK, hi, if_neg hne, cutL_at ha]
      have h1 : ((a.length : Int)).toNat = a.length := by omega
      rw [h1, Nat.add_zero, List.take_left']
      · congr 1
        have h2 : (a ++ c :: r).drop (a.length + [c].length) = r := by simp
        rw [h2]
        match n, hn with
        | 0, hn => simp at hn
        | n + 1, hn => exact splitK_one c n r (by simp at hn; omega)
      · rfl
    · have h0 : l.count c = 0 := List.count_eq_zero.2 hc
      rw [h0, cutL_no hc]; rfl
/-- The pieces, as strings. -/
def cutW (c : UInt8) (s : ByteArray) : List ByteArray := (cutL c s.data.toList).map fun l => ⟨l.toArray⟩
theorem splitB_cutW (c : UInt8) (s : ByteArray) : Lib.splitB ⟨#[c]⟩ 0 (Lib.countB s ⟨#[c]⟩) s = cutW c s := by
  have h1 := Lib.splitB_data ⟨#[c]⟩ 0 (Lib.countB s ⟨#[c]⟩) s
  have e : Lib.countB s ⟨#[c]⟩ = s.data.toList.count c := by show Lib.count s.data.toList [c] = _; rw [Lib.count_one]
  have h2 : Lib.splitK (⟨#[c]⟩ : ByteArray).data.toList 0 (Lib.countB s ⟨#[c]⟩) s.data.toList = cutL c s.data.toList := by rw [e]; exact splitK_one c _ _ (Nat.le_refl _)
  rw [h2] at h1
  rw [cutW, ← h1, List.map_map]
  conv => lhs; rw [← List.map_id (Lib.splitB _ _ _ _)]
  exact List.map_congr_left fun x _ => by apply ByteArray.ext; simp
end Go.Proofs.YthlehngbadianaaDoor.Ow
set_option maxRecDepth 100000
namespace Go.Proofs.YthlehngbadianaaDoor.Ow
open Go Go.RowKit Go.Proofs Go.Shelf
/-- A call by a contract of the kit's that gives a list of strings, new; it is frozen. -/
theorem ACalls.strsR {P : Program} {f : FuncId} {args : List AV} {l : List ByteArray}
    (h : ∀ (I : World → Fp → Value → Fp → Prop) w F env vals, vals.size = args.length → (∀ (i : Nat) y, args[i]? = some y → ∃ u, vals[i]? = some u ∧ SV w F env (lentTo [] I) y u) →
      Calls P f vals w fun e w' => ∃ b cap, e = .returned (.slice (some ⟨b, 0, none⟩) l.length cap) ∧ l.length ≤ cap ∧ w.heap.size ≤ b ∧ Below w.heap.size w w' ∧ ∀ (i : Nat) s, l[i]? = some s → w'.cell? ⟨b, i, none⟩ = some (.string s))
    {Q : AV → Al → Prop} (hq : Q (.lst 1 (l.map fun s => .v (.string s))) []) : ACalls P f [] args Q := by
  intro I w F env vals hok hl hv hrf
  obtain ⟨⟨T, ok, hX⟩, hXF, hk⟩ := hok
  refine (h I w F env vals hl hv).mono ?_
  rintro e w' ⟨b, cap, rfl, hcap, hbs, hb, hc⟩
  have hkp : ∀ T' : Fp, Kp w F w' F T' := fun T' => ⟨⟨E0, Agree.below hb E0, fun _ _ h => h.elim, fun _ _ _ h => h⟩, fun _ _ h => .inl h⟩
  have hlen : (l.map fun s => AV.v (.string s)).length = l.length := List.length_map ..
  have hget : ∀ (i : Nat) x (j : Nat) c, (l.map fun s => AV.v (.string s))[i]? = some x → x.cells[j]? = some c → j = 0 ∧ ∃ s, l[i]? = some s ∧ c = .v (.string s) := by
    intro i x j c hx hj
    rw [List.getElem?_map, Option.map_eq_some_iff] at hx
    obtain ⟨s, hs, rfl⟩ := hx
    cases j with
    | zero => simp [AV.cells] at hj; exact ⟨rfl, s, hs, hj.symm⟩
    | succ j => simp [AV.cells] at hj
  have hrep : Rep w' F (.lst 1 (l.map fun s => .v (.string s))) (.slice (some ⟨b, 0, none⟩) l.length cap) E0 := by
    have := Rep.lst (w := w') (F := F) (es := 1) (xs := l.map fun s => AV.v (.string s)) (B := b) (o := 0) (cap := cap) (T := E0) (fun i j => (w'.cell? ⟨b, i, none⟩).getD undef) (by decide) (by rw [hlen]; exact hcap)
      (fun i x hx => by rw [List.getElem?_map, Option.map_eq_some_iff] at hx; obtain ⟨s, _, rfl⟩ := hx; rfl)
      (fun i x j c hx hj => by
        obtain ⟨rfl, s, hs, rfl⟩ := hget i x j c hx hj
        have e : (0 : Nat) + i * 1 + 0 = i := by omega
        rw [e, hc i s hs]; rfl)
      (fun i j _ _ hF => by have := ok.fb _ _ hF; omega)
      (fun i x j c hx hj => by
        obtain ⟨rfl, s, hs, rfl⟩ := hget i x j c hx hj
        simp only [hc i s hs, Option.getD_some]
        exact .v rfl fun _ _ h => h)
      (fun _ _ h => h)
    rwa [hlen] at this
  refine ⟨_, rfl, .lst 1 (l.map fun s => .v (.string s)), lentTo [] I, F, env, E0, [], rfl, hq, ⟨⟨T, ⟨fun r x hx => (ok.root r x hx).keep (hkp _), ok.dis, ok.sub, fun b a hh => Nat.lt_of_lt_of_le (ok.fb b a hh) hb.size⟩, hX⟩, hXF, hk⟩, ⟨E0, hrep, fun _ _ h => h.elim⟩, ⟨hkp _, fun _ _ => rfl⟩, fun e he => by simp at he⟩
theorem args2 {w : World} {F : Fp} {env : Nat → RLoc} {rt : Al} {vals : Array Value} {x y : Value} (hl : vals.size = 2) (hv : ∀ (i : Nat) z, [AV.v x, AV.v y][i]? = some z → ∃ u, vals[i]? = some u ∧ SV w F env rt z u) : vals = #[x, y] := by
  obtain ⟨u0, e0, s0⟩ := hv 0 _ rfl
  obtain ⟨u1, e1, s1⟩ := hv 1 _ rfl
  rw [(SV_val s0).1] at e0
  rw [(SV_val s1).1] at e1
  apply Array.ext_getElem?
  intro i
  match i with
  | 0 => rw [e0]; rfl
  | 1 => rw [e1]; rfl
  | i + 2 => rw [Array.getElem?_eq_none (by omega), Array.getElem?_eq_none (by simp)]
/-- strings.Split at one byte. -/
theorem c1008 (s : ByteArray) (b : UInt8) (hs : s.size < 4294967281) {Q : AV → Al → Prop} (h : Q (.lst 1 ((cutW b s).map fun s => .v (.string s))) []) : ACalls Tryd.prog 16 [] [.v (.string s), .v (.string ⟨#[b]⟩)] Q := by
  refine ACalls.strsR ?_ h
  intro I w F env vals hl hv
  obtain rfl := args2 hl hv
  have hlen : (cutW b s).length = Lib.countB s ⟨#[b]⟩ + 1 := by rw [← splitB_cutW]; exact Lib.splitB_all ⟨#[b]⟩ (Nat.le_refl 1) 0 _ s rfl
  refine (split_one sp146 (by kernel_rfl) s b w hs).mono ?_
  rintro e w' ⟨rfl, rfl⟩
  rw [splitB_cutW, ← hlen]
  refine ⟨_, _, rfl, Nat.le_refl _, Nat.le_refl _, (Below.refl _ _).alloc (Nat.le_refl _) _, fun i x hx => ?_⟩
  rw [cell_alloc_new]
  simp [hx]
end Go.Proofs.YthlehngbadianaaDoor.Ow
set_option maxRecDepth 100000
set_option maxHeartbeats 4000000
namespace Go.Proofs.YthlehngbadianaaDoor.Ow
open Go Go.RowKit Go.Proofs
/- watershed/words.Lines -/
/- watershed/watershedref08.Lines -/
theorem cutL_ne (c : UInt8) : ∀ l : List UInt8, cutL c l ≠ []
  | [] => by simp [cutL]
  | b :: l => by
    rw [cutL]
    split
    · simp
    · split <;> simp
theorem ba_at (l : List UInt8) (i : Nat) : (⟨l.toArray⟩ : ByteArray)[i]? = l[i]? := by
  by_cases h : i < l.length
  · rw [List.getElem?_eq_getElem h, getElem?_pos (c := (⟨l.toArray⟩ : ByteArray)) (i := i) (h := h)]
    rfl
  · rw [List.getElem?_eq_none (by omega), getElem?_neg (c := (⟨l.toArray⟩ : ByteArray)) (i := i) (h := h)]
theorem ba_cut (l : List UInt8) (a b : Nat) : (⟨l.toArray⟩ : ByteArray).extract a b = ⟨((l.drop a).take (b - a)).toArray⟩ := by
  apply ByteArray.ext
  apply Array.ext'
  simp [ByteArray.data_extract, List.extract]
theorem ba_size (l : List UInt8) : (⟨l.toArray⟩ : ByteArray).size = l.length := rfl
theorem drop_cons' {α : Type} {l : List α} {i : Nat} {x : α} (h : l[i]? = some x) : l.drop i = x :: l.drop (i + 1) := by
  obtain ⟨h1, h2⟩ := List.getElem?_eq_some_iff.1 h
  rw [List.drop_eq_getElem_cons h1, h2]
def strsA (ls : List (List UInt8)) : List AV := ls.map strV
theorem ba_toL (l : List UInt8) : (⟨l.toArray⟩ : ByteArray).toList = l := by rw [Lib.toList_data]
end Go.Proofs.YthlehngbadianaaDoor.Ow
