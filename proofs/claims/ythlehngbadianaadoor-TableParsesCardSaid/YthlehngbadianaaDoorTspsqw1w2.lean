/- What the functions of the program do, each once: contracts of the logic (part sp sq w1 w2). -/
import Derived.Test.YthlehngbadianaaDoorOwWeakNil
import Derived.Test.YthlehngbadianaaDoorProg
import Derived.WalkKit
import Derived.Shelf.Strings.Split
import Derived.Shelf.Strings.Prefix
import Derived.Test.YthlehngbadianaaDoorTd1g1
import Derived.Test.YthlehngbadianaaDoorTkt
set_option linter.unusedVariables false
set_option linter.unusedSimpArgs false
set_option linter.unnecessarySimpa false
set_option maxRecDepth 1000000
namespace Go.Proofs.YthlehngbadianaaDoor.Ow
open Go Go.RowKit Go.Proofs Go.Shelf
def spRen : Go.Shelf.Ren := ⟨fun | 99 => 47 | 102 => 46 | 138 => 59 | 143 => 60 | 146 => 16 | 195 => 87 | 197 => 88 | 206 => 74 | 207 => 98 | 209 => 73 | 217 => 90 | 218 => 89 | 219 => 61 | 221 => 35 | 224 => 92 | 225 => 91 | 260 => 105 | 266 => 106 | 267 => 93 | 268 => 58 | 314 => 107 | n => n, fun | 0 => 0 | 3 => 3 | 4 => 4 | 5 => 5 | 9 => 9 | 21 => 21 | 31 => 37 | 46 => 148 | 51 => 160 | 105 => 145 | 119 => 163 | 138 => 165 | 139 => 166 | 146 => 161 | n => n, fun | 1 => 0 | 3 => 1 | 4 => 2 | n => n⟩
theorem sp146 : Lays.n146 Tryd.prog spRen := {
  mixed := by kernel_rfl
  f138 := by kernel_rfl
  f143 := by kernel_rfl
  f146 := by kernel_rfl
  f195 := by kernel_rfl
  f197 := by kernel_rfl
  f217 := by kernel_rfl
  f218 := by kernel_rfl
  f219 := by kernel_rfl
  f221 := by kernel_rfl
  f224 := by kernel_rfl
  f225 := by kernel_rfl
  f260 := by kernel_rfl
  f266 := by kernel_rfl
  f267 := by kernel_rfl
  f268 := by kernel_rfl
  f314 := by kernel_rfl
  t0 := Tryd.underlying0
  a0 := Tryd.isAgg0
  z0 := Tryd.sizeOf0
  v0 := Tryd.zeroValue0
  t3 := Tryd.underlying3
  a3 := Tryd.isAgg3
  z3 := Tryd.sizeOf3
  v3 := Tryd.zeroValue3
  t4 := Tryd.underlying4
  a4 := Tryd.isAgg4
  z4 := Tryd.sizeOf4
  v4 := Tryd.zeroValue4
  t5 := Tryd.underlying5
  a5 := Tryd.isAgg5
  z5 := Tryd.sizeOf5
  v5 := Tryd.zeroValue5
  t9 := Tryd.underlying9
  a9 := Tryd.isAgg9
  z9 := Tryd.sizeOf9
  v9 := Tryd.zeroValue9
  t21 := Tryd.underlying21
  a21 := Tryd.isAgg21
  z21 := Tryd.sizeOf21
  v21 := Tryd.zeroValue21
  t31 := Tryd.underlying37
  a31 := Tryd.isAgg37
  z31 := Tryd.sizeOf37
  v31 := Tryd.zeroValue37
  t46 := Tryd.underlying148
  a46 := Tryd.isAgg148
  z46 := Tryd.sizeOf148
  v46 := Tryd.zeroValue148
  t51 := Tryd.underlying160
  a51 := Tryd.isAgg160
  z51 := Tryd.sizeOf160
  v51 := Tryd.zeroValue160
  t105 := Tryd.underlying145
  a105 := Tryd.isAgg145
  z105 := Tryd.sizeOf145
  v105 := Tryd.zeroValue145
  t119 := Tryd.underlying163
  a119 := Tryd.isAgg163
  z119 := Tryd.sizeOf163
  t138 := Tryd.underlying165
  a138 := Tryd.isAgg165
  z138 := Tryd.sizeOf165
  v138 := Tryd.zeroValue165
  t139 := Tryd.underlying166
  a139 := Tryd.isAgg166
  z139 := Tryd.sizeOf166
  v139 := Tryd.zeroValue166
  t146 := Tryd.underlying161
  a146 := Tryd.isAgg161
  z146 := Tryd.sizeOf161
  v146 := Tryd.zeroValue161
  g1 := by kernel_rfl
  g3 := by kernel_rfl
  g4 := by kernel_rfl }
theorem sp102 : Lays.n102 Tryd.prog spRen := {
  mixed := by kernel_rfl
  f102 := by kernel_rfl
  f207 := by kernel_rfl
  f209 := by kernel_rfl
  t3 := Tryd.underlying3
  a3 := Tryd.isAgg3
  z3 := Tryd.sizeOf3
  v3 := Tryd.zeroValue3
  t4 := Tryd.underlying4
  a4 := Tryd.isAgg4
  z4 := Tryd.sizeOf4
  v4 := Tryd.zeroValue4
  t9 := Tryd.underlying9
  a9 := Tryd.isAgg9
  z9 := Tryd.sizeOf9
  v9 := Tryd.zeroValue9 }
theorem sp99 : Lays.n99 Tryd.prog spRen := {
  mixed := by kernel_rfl
  f99 := by kernel_rfl
  f206 := by kernel_rfl
  t3 := Tryd.underlying3
  a3 := Tryd.isAgg3
  z3 := Tryd.sizeOf3
  v3 := Tryd.zeroValue3
  t4 := Tryd.underlying4
  a4 := Tryd.isAgg4
  z4 := Tryd.sizeOf4
  v4 := Tryd.zeroValue4
  t9 := Tryd.underlying9
  a9 := Tryd.isAgg9
  z9 := Tryd.sizeOf9
  v9 := Tryd.zeroValue9 }
theorem index_one (c : UInt8) : ∀ l : List UInt8, Lib.index l [c] = Lib.indexByte l c
  | [] => rfl
  | b :: l => by
    have ih := index_one c l
    simp only [Lib.index, Lib.indexByte, ih, List.isPrefixOf, Bool.and_true]
    by_cases h : b = c
    · subst h; simp
    · have h1 : (c == b) = false := by simpa using fun e => h e.symm
      have h2 : (b == c) = false := by simpa using h
      rw [h1, h2]
section
variable {P : Program} {ρ : Ren}
set_option maxHeartbeats 1000000 in
/-- strings.Split at one byte: no package-level variable is read. -/
theorem split_one (L : Lays.n146 P ρ) (hi9 : (P.info? (ρ.t 9)).map (fun i => (i.zero, i.size, i.bytes)) = some (some (.string ByteArray.empty), 1, 16)) (s : ByteArray) (b : UInt8) (w : World) (hs : s.size < 4294967281) :
    Calls P (ρ.f 146) #[.string s, .string ⟨#[b]⟩] w fun e w' =>
      e = .returned (.slice (some ⟨w.heap.size, 0, none⟩) (Lib.countB s ⟨#[b]⟩ + 1) (Lib.countB s ⟨#[b]⟩ + 1)) ∧ w' = w.alloc (.cells ((Lib.splitB ⟨#[b]⟩ 0 (Lib.countB s ⟨#[b]⟩) s).map Value.string).toArray (ρ.t 9)) := by
  have h1 : 1 ≤ (⟨#[b]⟩ : ByteArray).size := Nat.le_refl 1
  have hle := Lib.countB_le ⟨#[b]⟩ h1 s.size s (Nat.le_refl _)
  have hlen := Lib.splitB_all ⟨#[b]⟩ h1 0 _ s rfl
  have c := Any.strings_genSplit_core { L with } hi9 s ⟨#[b]⟩ 0 (-1) (Lib.countB s ⟨#[b]⟩ + 1) w hs h1 (Nat.zero_le _)
    (fun x cc hx => (Any.strings_Index_one { L with } x b _).mono fun e w' ⟨he, hw⟩ => ⟨by rw [he]; show _ = Ending.returned (Value.int .i64 (Lib.index x.data.toList [b])); rw [index_one], hw⟩)
    ((Any.strings_Count_one { L with } s b w).mono fun e w' ⟨he, hw⟩ => ⟨by
      rw [he]
      show _ = Ending.returned (Value.int .i64 ((Lib.count s.data.toList [b] : Nat) : Int))
      rw [Lib.count_one]
      rfl, hw⟩) (by decide) (by decide) (by rw [if_pos (by decide)]; omega)
  rw [Nat.add_sub_cancel, hlen] at c
  have e2 : Lib.cellsOf (Lib.splitB ⟨#[b]⟩ 0 (Lib.countB s ⟨#[b]⟩) s) (Lib.countB s ⟨#[b]⟩ + 1) = ((Lib.splitB ⟨#[b]⟩ 0 (Lib.countB s ⟨#[b]⟩) s).map Value.string).toArray := by rw [← hlen]; exact Lib.cellsOf_full _
  rw [e2] at c
  have t3 := L.t3; have t9 := L.t9; have t31 := L.t31
  have a3 := L.a3; have a9 := L.a9; have a31 := L.a31
  have z3 := L.z3; have v3 := L.v3; have z9 := L.z9; have v9 := L.v9; have z31 := L.z31; have v31 := L.v31
  have e221 : ∀ args w, (callFunc (ρ.f 221) args).run P w = .ok (.enter (ρ.f 221) args) w := enters_of L.f221 (by kernel_rfl) rfl
  go_enter L.f146, Body.n146_ntmps ρ
  go_wp2_with (go_at_fn (ρ.f 221); refine c.mono ?_; rintro e w' ⟨rfl, hw⟩; rw [hw])
  go_ret
  exact ⟨rfl, rfl⟩
end
/-! The pieces between one byte's instances. -/
def cutL (c : UInt8) : List UInt8 → List (List UInt8)
  | [] => [[]]
  | b :: l => if b = c then [] :: cutL c l else match cutL c l with
    | [] => [[b]]
    | x :: xs => (b :: x) :: xs
theorem cutL_no {c : UInt8} : ∀ {l : List UInt8}, c ∉ l → cutL c l = [l]
  | [], _ => rfl
  | b :: l, h => by
    simp only [List.mem_cons, not_or] at h
    rw [cutL, if_neg fun e => h.1 e.symm, cutL_no h.2]
theorem cutL_at {c : UInt8} : ∀ {l r : List UInt8}, c ∉ l → cutL c (l ++ c :: r) = l :: cutL c r
  | [], r, _ => by simp [cutL]
  | b :: l, r, h => by
    simp only [List.mem_cons, not_or] at h
    rw [List.cons_append, cutL, if_neg fun e => h.1 e.symm, cutL_at h.2]
theorem idx_at {c : UInt8} : ∀ {l r : List UInt8}, c ∉ l → Lib.indexByte (l ++ c :: r) c = l.length
  | [], r, _ => by simp [Lib.indexByte]
  | b :: l, r, h => by
    simp only [List.mem_cons, not_or] at h
    have h2 : (b == c) = false := by simpa using fun e => h.1 e.symm
    have h3 : ¬ ((l.length : Int) = -1) := by omega
    simp only [List.cons_append, Lib.indexByte, h2, idx_at h.2, List.length_cons, Bool.false_eq_true, if_false, beq_iff_eq, h3]
    omega
theorem splitK_one (c : UInt8) : ∀ (n : Nat) (l : List UInt8), l.length ≤ n → Lib.splitK [c] 0 (l.count c) l = cutL c l
  | n, l, hn => by
    by_cases hc : c ∈ l
    · obtain ⟨a, r, rfl, ha⟩ := List.eq_append_cons_of_mem hc
      have h0 : a.count c = 0 := List.count_eq_zero.2 ha
      have e : (a ++ c :: r).count c = r.count c + 1 := by simp [h0]
      have hi : Lib.index (a ++ c :: r) [c] = a.length := by rw [index_one, idx_at ha]
      have hne : ¬ ((a.length : Int) == -1) = true := by simp only [beq_iff_eq]; omega
      rw [e, Lib.splitK, hi, if_neg hne, cutL_at ha]
      have h1 : ((a.length : Int)).toNat = a.length := by omega
      rw [h1, Nat.add_zero, List.take_left']
      · congr 1
        have h2 : (a ++ c :: r).drop (a.length + [c].length) = r := by simp
        rw [h2]
        match n, hn with
        | 0, hn => simp at hn
        | n + 1, hn => exact splitK_one c n r (by simp at hn; omega)
      · rfl
    · have h0 : l.count c = 0 := List.count_eq_zero.2 hc
      rw [h0, cutL_no hc]; rfl
/-- The pieces, as strings. -/
def cutW (c : UInt8) (s : ByteArray) : List ByteArray := (cutL c s.data.toList).map fun l => ⟨l.toArray⟩
theorem splitB_cutW (c : UInt8) (s : ByteArray) : Lib.splitB ⟨#[c]⟩ 0 (Lib.countB s ⟨#[c]⟩) s = cutW c s := by
  have h1 := Lib.splitB_data ⟨#[c]⟩ 0 (Lib.countB s ⟨#[c]⟩) s
  have e : Lib.countB s ⟨#[c]⟩ = s.data.toList.count c := by show Lib.count s.data.toList [c] = _; rw [Lib.count_one]
  have h2 : Lib.splitK (⟨#[c]⟩ : ByteArray).data.toList 0 (Lib.countB s ⟨#[c]⟩) s.data.toList = cutL c s.data.toList := by rw [e]; exact splitK_one c _ _ (Nat.le_refl _)
  rw [h2] at h1
  rw [cutW, ← h1, List.map_map]
  conv => lhs; rw [← List.map_id (Lib.splitB _ _ _ _)]
  exact List.map_congr_left fun x _ => by apply ByteArray.ext; simp
end Go.Proofs.YthlehngbadianaaDoor.Ow
set_option maxRecDepth 100000
namespace Go.Proofs.YthlehngbadianaaDoor.Ow
open Go Go.RowKit Go.Proofs Go.Shelf
/-- A call by a contract of the kit's that gives a list of strings, new; it is frozen. -/
theorem ACalls.strsR {P : Program} {f : FuncId} {args : List AV} {l : List ByteArray}
    (h : ∀ (I : World → Fp → Value → Fp → Prop) w F env vals, vals.size = args.length → (∀ (i : Nat) y, args[i]? = some y → ∃ u, vals[i]? = some u ∧ SV w F env (lentTo [] I) y u) →
      Calls P f vals w fun e w' => ∃ b cap, e = .returned (.slice (some ⟨b, 0, none⟩) l.length cap) ∧ l.length ≤ cap ∧ w.heap.size ≤ b ∧ Below w.heap.size w w' ∧ ∀ (i : Nat) s, l[i]? = some s → w'.cell? ⟨b, i, none⟩ = some (.string s))
    {Q : AV → Al → Prop} (hq : Q (.lst 1 (l.map fun s => .v (.string s))) []) : ACalls P f [] args Q := by
  intro I w F env vals hok hl hv hrf
  obtain ⟨⟨T, ok, hX⟩, hXF, hk⟩ := hok
  refine (h I w F env vals hl hv).mono ?_
  rintro e w' ⟨b, cap, rfl, hcap, hbs, hb, hc⟩
  have hkp : ∀ T' : Fp, Kp w F w' F T' := fun T' => ⟨⟨E0, Agree.below hb E0, fun _ _ h => h.elim, fun _ _ _ h => h⟩, fun _ _ h => .inl h⟩
  have hlen : (l.map fun s => AV.v (.string s)).length = l.length := List.length_map ..
  have hget : ∀ (i : Nat) x (j : Nat) c, (l.map fun s => AV.v (.string s))[i]? = some x → x.cells[j]? = some c → j = 0 ∧ ∃ s, l[i]? = some s ∧ c = .v (.string s) := by
    intro i x j c hx hj
    rw [List.getElem?_map, Option.map_eq_some_iff] at hx
    obtain ⟨s, hs, rfl⟩ := hx
    cases j with
    | zero => simp [AV.cells] at hj; exact ⟨rfl, s, hs, hj.symm⟩
    | succ j => simp [AV.cells] at hj
  have hrep : Rep w' F (.lst 1 (l.map fun s => .v (.string s))) (.slice (some ⟨b, 0, none⟩) l.length cap) E0 := by
    have := Rep.lst (w := w') (F := F) (es := 1) (xs := l.map fun s => AV.v (.string s)) (B := b) (o := 0) (cap := cap) (T := E0) (fun i j => (w'.cell? ⟨b, i, none⟩).getD undef) (by decide) (by rw [hlen]; exact hcap)
      (fun i x hx => by rw [List.getElem?_map, Option.map_eq_some_iff] at hx; obtain ⟨s, _, rfl⟩ := hx; rfl)
      (fun i x j c hx hj => by
        obtain ⟨rfl, s, hs, rfl⟩ := hget i x j c hx hj
        have e : (0 : Nat) + i * 1 + 0 = i := by omega
        rw [e, hc i s hs]; rfl)
      (fun i j _ _ hF => by have := ok.fb _ _ hF; omega)
      (fun i x j c hx hj => by
        obtain ⟨rfl, s, hs, rfl⟩ := hget i x j c hx hj
        simp only [hc i s hs, Option.getD_some]
        exact .v rfl fun _ _ h => h)
      (fun _ _ h => h)
    rwa [hlen] at this
  refine ⟨_, rfl, .lst 1 (l.map fun s => .v (.string s)), lentTo [] I, F, env, E0, [], rfl, hq, ⟨⟨T, ⟨fun r x hx => (ok.root r x hx).keep (hkp _), ok.dis, ok.sub, fun b a hh => Nat.lt_of_lt_of_le (ok.fb b a hh) hb.size⟩, hX⟩, hXF, hk⟩, ⟨E0, hrep, fun _ _ h => h.elim⟩, ⟨hkp _, fun _ _ => rfl⟩, fun e he => by simp at he⟩
theorem args2 {w : World} {F : Fp} {env : Nat → RLoc} {rt : Al} {vals : Array Value} {x y : Value} (hl : vals.size = 2) (hv : ∀ (i : Nat) z, [AV.v x, AV.v y][i]? = some z → ∃ u, vals[i]? = some u ∧ SV w F env rt z u) : vals = #[x, y] := by
  obtain ⟨u0, e0, s0⟩ := hv 0 _ rfl
  obtain ⟨u1, e1, s1⟩ := hv 1 _ rfl
  rw [(SV_val s0).1] at e0
  rw [(SV_val s1).1] at e1
  apply Array.ext_getElem?
  intro i
  match i with
  | 0 => rw [e0]; rfl
  | 1 => rw [e1]; rfl
  | i + 2 => rw [Array.getElem?_eq_none (by omega), Array.getElem?_eq_none (by simp)]
/-- strings.Split at one byte. -/
theorem c1008 (s : ByteArray) (b : UInt8) (hs : s.size < 4294967281) {Q : AV → Al → Prop} (h : Q (.lst 1 ((cutW b s).map fun s => .v (.string s))) []) : ACalls Tryd.prog 16 [] [.v (.string s), .v (.string ⟨#[b]⟩)] Q := by
  refine ACalls.strsR ?_ h
  intro I w F env vals hl hv
  obtain rfl := args2 hl hv
  have hlen : (cutW b s).length = Lib.countB s ⟨#[b]⟩ + 1 := by rw [← splitB_cutW]; exact Lib.splitB_all ⟨#[b]⟩ (Nat.le_refl 1) 0 _ s rfl
  refine (split_one sp146 (by kernel_rfl) s b w hs).mono ?_
  rintro e w' ⟨rfl, rfl⟩
  rw [splitB_cutW, ← hlen]
  refine ⟨_, _, rfl, Nat.le_refl _, Nat.le_refl _, (Below.refl _ _).alloc (Nat.le_refl _) _, fun i x hx => ?_⟩
  rw [cell_alloc_new]
  simp [hx]
/-- strings.TrimSuffix. -/
theorem c1022 (s p : ByteArray) (hs : s.size ≤ 9223372036854775807) {Q : AV → Al → Prop} (h : Q (.v (.string ⟨(Lib.trimSuffix s.data.toList p.data.toList).toArray⟩)) []) : ACalls Tryd.prog 46 [] [.v (.string s), .v (.string p)] Q := by
  refine ACalls.kit rfl ?_ h
  intro I w F env vals hl hv
  obtain rfl := args2 hl hv
  refine (Any.strings_TrimSuffix sp102 s p w hs).mono ?_
  rintro e w' ⟨rfl, rfl⟩
  exact ⟨rfl, Below.refl _ _⟩
/-- strings.HasPrefix. -/
theorem c1023 (s p : ByteArray) {Q : AV → Al → Prop} (h : Q (.v (.bool (Lib.hasPrefix s.data.toList p.data.toList))) []) : ACalls Tryd.prog 47 [] [.v (.string s), .v (.string p)] Q := by
  refine ACalls.kit rfl ?_ h
  intro I w F env vals hl hv
  obtain rfl := args2 hl hv
  refine (Any.strings_HasPrefix sp99 s p w).mono ?_
  rintro e w' ⟨rfl, rfl⟩
  exact ⟨rfl, Below.refl _ _⟩
end Go.Proofs.YthlehngbadianaaDoor.Ow
set_option maxRecDepth 100000
set_option maxHeartbeats 4000000
namespace Go.Proofs.YthlehngbadianaaDoor.Ow
open Go Go.RowKit Go.Proofs
/- watershed/words.Lines -/
def cc1012 : CC := (.seq (.region [⟨none, 2, (.val (.mv (.c (.slice none 0 0)))), [2], none, []⟩]) (.seq (.seq (.region [⟨none, 3, (.val (.mv (.s 0))), [], none, []⟩, ⟨none, 4, (.val (.bin .eql (.s 3) (.c (.string ⟨#[]⟩)))), [3], none, []⟩]) (.cond (.s 4) (.seq (.region [⟨none, 2, (.val (.mv (.c (.slice none 0 0)))), [0, 4], none, []⟩]) .ret) .skip)) (.seq (.region [⟨none, 5, (.val (.mv (.s 0))), [0, 4], none, []⟩, ⟨none, 6, (.callP 46 [(.s 5), (.c (.string ⟨#[10]⟩))]), [5], none, []⟩, ⟨none, 7, (.callP 16 [(.s 6), (.c (.string ⟨#[10]⟩))]), [6], none, []⟩, ⟨none, 2, (.val (.mv (.s 7))), [7], none, []⟩]) .ret)))
theorem ok1012 : FnOk Tryd.prog 24 cc1012 [(.t 2)] 1 8 := ⟨⟨_, Tryd.func24, by kernel_rfl, by kernel_rfl, by kernel_rfl⟩, by decide, by decide⟩
/- watershed/watershedref08.Lines -/
def cc1015 : CC := (.seq (.region [⟨none, 2, (.val (.mv (.c (.slice none 0 0)))), [2], none, []⟩]) (.seq (.region [⟨none, 3, (.val (.mv (.c (.slice none 0 0)))), [], none, []⟩]) (.seq (.region [⟨none, 4, (.val (.mv (.c (.int .i64 0)))), [], none, []⟩]) (.seq (.seq (.region [⟨none, 5, (.val (.mv (.c (.int .i64 0)))), [], none, []⟩]) (.block 0 (.loop (.seq (.seq (.region [⟨none, 6, (.val (.mv (.s 5))), [], none, []⟩, ⟨none, 7, (.val (.mv (.s 0))), [], none, []⟩, ⟨none, 8, (.val (.lns (.s 7))), [7], none, []⟩, ⟨none, 9, (.val (.bin .lss (.s 6) (.s 8))), [6, 8], none, []⟩]) (.cond (.s 9) .skip (.exit 0))) (.seq (.block 1 (.seq (.region [⟨none, 12, (.val (.mv (.s 0))), [9], none, []⟩, ⟨none, 13, (.val (.mv (.s 5))), [], none, []⟩, ⟨none, 14, (.val (.is (.s 12) (.s 13))), [12, 13], none, []⟩, ⟨none, 15, (.val (.bin .eql (.s 14) (.c (.int .u8 10)))), [14], none, []⟩]) (.cond (.s 15) (.seq (.region [⟨none, 16, (.val (.mv (.s 3))), [3, 15], none, []⟩, ⟨none, 17, (.val (.mv (.s 0))), [], none, []⟩, ⟨none, 18, (.val (.mv (.s 4))), [4], none, []⟩, ⟨none, 19, (.val (.mv (.s 5))), [], none, []⟩, ⟨none, 20, (.val (.ss (.s 17) (some (.s 18)) (some (.s 19)))), [17, 18, 19], none, []⟩, ⟨none, 21, (.lit 1 [(.s 20)]), [20], none, []⟩, ⟨none, 22, (.app 1 16 false (.s 16) (.s 21)), [16, 21], none, []⟩, ⟨none, 3, (.val (.mv (.s 22))), [22], none, []⟩]) (.region [⟨none, 23, (.val (.mv (.s 5))), [], none, []⟩, ⟨none, 24, (.val (.bin .add (.s 23) (.c (.int .i64 1)))), [23], none, []⟩, ⟨none, 4, (.val (.mv (.s 24))), [24], none, []⟩])) .skip))) (.region [⟨none, 10, (.val (.mv (.s 5))), [5, 15], none, []⟩, ⟨none, 11, (.val (.bin .add (.s 10) (.c (.int .i64 1)))), [10], none, []⟩, ⟨none, 5, (.val (.mv (.s 11))), [11], none, []⟩])))))) (.seq (.seq (.region [⟨none, 25, (.val (.mv (.s 4))), [5, 9], none, []⟩, ⟨none, 26, (.val (.mv (.s 0))), [], none, []⟩, ⟨none, 27, (.val (.lns (.s 26))), [26], none, []⟩, ⟨none, 28, (.val (.bin .lss (.s 25) (.s 27))), [25, 27], none, []⟩]) (.cond (.s 28) (.region [⟨none, 29, (.val (.mv (.s 3))), [3, 28], none, []⟩, ⟨none, 30, (.val (.mv (.s 0))), [0], none, []⟩, ⟨none, 31, (.val (.mv (.s 4))), [4], none, []⟩, ⟨none, 32, (.val (.ss (.s 30) (some (.s 31)) none)), [30, 31], none, []⟩, ⟨none, 33, (.lit 1 [(.s 32)]), [32], none, []⟩, ⟨none, 34, (.app 1 16 false (.s 29) (.s 33)), [29, 33], none, []⟩, ⟨none, 3, (.val (.mv (.s 34))), [34], none, []⟩]) .skip)) (.seq (.region [⟨none, 35, (.val (.mv (.s 3))), [0, 3, 4, 28], none, []⟩, ⟨none, 2, (.val (.mv (.s 35))), [35], none, []⟩]) .ret))))))
theorem ok1015 : FnOk Tryd.prog 29 cc1015 [(.t 2)] 1 36 := ⟨⟨_, Tryd.func29, by kernel_rfl, by kernel_rfl, by kernel_rfl⟩, by decide, by decide⟩
/-- A text's lines. -/
def linesL : List UInt8 → List (List UInt8)
  | [] => []
  | b :: l => if b = 10 then [] :: linesL l else match linesL l with
    | [] => [[b]]
    | x :: xs => (b :: x) :: xs
theorem linesL_at : ∀ {a r : List UInt8}, 10 ∉ a → linesL (a ++ 10 :: r) = a :: linesL r
  | [], r, _ => by simp [linesL]
  | b :: a, r, h => by
    simp only [List.mem_cons, not_or] at h
    rw [List.cons_append, linesL, if_neg fun e => h.1 e.symm, linesL_at h.2]
theorem linesL_no : ∀ {a : List UInt8}, 10 ∉ a → linesL a = if a = [] then [] else [a]
  | [], _ => rfl
  | b :: a, h => by
    simp only [List.mem_cons, not_or] at h
    rw [linesL, if_neg fun e => h.1 e.symm, linesL_no h.2]
    by_cases ha : a = []
    · subst ha; rfl
    · rw [if_neg ha]; rfl
theorem cutL_ne (c : UInt8) : ∀ l : List UInt8, cutL c l ≠ []
  | [] => by simp [cutL]
  | b :: l => by
    rw [cutL]
    split
    · simp
    · split <;> simp
theorem linesL_end : ∀ t : List UInt8, linesL (t ++ [10]) = cutL 10 t
  | [] => rfl
  | b :: t => by
    obtain ⟨x, xs, hx⟩ := List.exists_cons_of_ne_nil (cutL_ne 10 t)
    rw [List.cons_append, linesL, cutL, linesL_end t, hx]
theorem linesL_mid : ∀ (b : UInt8) (t : List UInt8), (b :: t).getLast (by simp) ≠ 10 → linesL (b :: t) = cutL 10 (b :: t)
  | b, [], h => by
    have h' : b ≠ 10 := by simpa using h
    simp [linesL, cutL, h']
  | b, c :: t, h => by
    have h' : (c :: t).getLast (by simp) ≠ 10 := by simpa using h
    obtain ⟨x, xs, hx⟩ := List.exists_cons_of_ne_nil (cutL_ne 10 (c :: t))
    rw [linesL, cutL, linesL_mid c t h', hx]
theorem linesL_cut {s : List UInt8} (h : s ≠ []) : cutL 10 (Lib.trimSuffix s [10]) = linesL s := by
  by_cases he : s.getLast h = 10
  · have hs : s = s.dropLast ++ [10] := by rw [← he]; exact (List.dropLast_concat_getLast h).symm
    have e : Lib.trimSuffix s [10] = s.dropLast := by
      rw [Lib.trimSuffix]
      have : Lib.hasSuffix s [10] = true := by
        rw [Lib.hasSuffix, List.isSuffixOf_iff_suffix]
        exact ⟨s.dropLast, hs.symm⟩
      rw [if_pos this]
      simp [List.dropLast_eq_take]
    rw [e, ← linesL_end, ← hs]
  · have e : Lib.trimSuffix s [10] = s := by
      rw [Lib.trimSuffix]
      have : ¬ Lib.hasSuffix s [10] = true := by
        rw [Lib.hasSuffix, List.isSuffixOf_iff_suffix]
        rintro ⟨t, rfl⟩
        simp at he
      rw [if_neg this]
    rw [e]
    match s, h, he with
    | b :: t, _, he => exact (linesL_mid b t he).symm
theorem ba_at (l : List UInt8) (i : Nat) : (⟨l.toArray⟩ : ByteArray)[i]? = l[i]? := by
  by_cases h : i < l.length
  · rw [List.getElem?_eq_getElem h, getElem?_pos (c := (⟨l.toArray⟩ : ByteArray)) (i := i) (h := h)]
    rfl
  · rw [List.getElem?_eq_none (by omega), getElem?_neg (c := (⟨l.toArray⟩ : ByteArray)) (i := i) (h := h)]
theorem ba_cut (l : List UInt8) (a b : Nat) : (⟨l.toArray⟩ : ByteArray).extract a b = ⟨((l.drop a).take (b - a)).toArray⟩ := by
  apply ByteArray.ext
  apply Array.ext'
  simp [ByteArray.data_extract, List.extract]
theorem ba_size (l : List UInt8) : (⟨l.toArray⟩ : ByteArray).size = l.length := rfl
theorem drop_cons' {α : Type} {l : List α} {i : Nat} {x : α} (h : l[i]? = some x) : l.drop i = x :: l.drop (i + 1) := by
  obtain ⟨h1, h2⟩ := List.getElem?_eq_some_iff.1 h
  rw [List.drop_eq_getElem_cons h1, h2]
def strsA (ls : List (List UInt8)) : List AV := ls.map strV
theorem ba_toL (l : List UInt8) : (⟨l.toArray⟩ : ByteArray).toList = l := by rw [Lib.toList_data]
/-- words.Lines. -/
theorem c1012 (S : List UInt8) (hS : S.length ≤ 1000000) {Q : AV → Al → Prop} (h : Q (.lst 1 (strsA (linesL S))) []) : ACalls Tryd.prog 24 [] [strV S] Q := by
  refine ACalls.weakQ ?_
  refine ok1012.N hmix rfl ?_
  intro I
  by_cases hs : S = []
  · subst hs
    simp only [cc1012, OI, ↓reduceIte, reduceCtorEq, Nat.reduceAdd, Nat.reduceEqDiff, Nat.reduceBEq, Nat.reduceLT, Nat.reduceLeDiff, Nat.reduceMul, Nat.reduceSub, Int.reduceLE, Int.reduceLT, Int.reduceEq, Int.reduceBEq, Int.reduceBNe, Int.reduceToNat, Int.reduceNeg, Nat.reduceBNe, strV]
    exact ⟨_, .inl (.one .nl), h⟩
  · have hb : ((⟨S.toArray⟩ : ByteArray).toList == (⟨#[]⟩ : ByteArray).toList) = false := by
      have e : (⟨#[]⟩ : ByteArray).toList = [] := ba_toL []
      rw [ba_toL, e]
      simpa using hs
    simp only [cc1012, OI, ↓reduceIte, reduceCtorEq, Nat.reduceAdd, Nat.reduceEqDiff, Nat.reduceBEq, Nat.reduceLT, Nat.reduceLeDiff, Nat.reduceMul, Nat.reduceSub, Int.reduceLE, Int.reduceLT, Int.reduceEq, Int.reduceBEq, Int.reduceBNe, Int.reduceToNat, Int.reduceNeg, Nat.reduceBNe, strV, hb]
    refine c1022 _ _ (by rw [ba_size]; omega) ?_
    simp only [OI, ↓reduceIte, reduceCtorEq, Nat.reduceAdd, Nat.reduceEqDiff, Nat.reduceBEq, Nat.reduceLT, Nat.reduceLeDiff, Nat.reduceMul, Nat.reduceSub, Int.reduceLE, Int.reduceLT, Int.reduceEq, Int.reduceBEq, Int.reduceBNe, Int.reduceToNat, Int.reduceNeg, Nat.reduceBNe]
    have hl : (Lib.trimSuffix S [10]).length ≤ S.length := by
      unfold Lib.trimSuffix
      split
      · simp
      · exact Nat.le_refl _
    refine c1008 _ 10 (by rw [ba_size]; omega) ?_
    have e1 : cutW 10 ⟨(Lib.trimSuffix S [10]).toArray⟩ = (linesL S).map fun l => ⟨l.toArray⟩ := by
      rw [cutW, ← linesL_cut hs]
    have e2 : ((cutW 10 ⟨(Lib.trimSuffix S [10]).toArray⟩).map fun s => AV.v (.string s)) = strsA (linesL S) := by rw [e1, List.map_map]; rfl
    simp only [OI, ↓reduceIte, reduceCtorEq, Nat.reduceAdd, Nat.reduceEqDiff, Nat.reduceBEq, Nat.reduceLT, Nat.reduceLeDiff, Nat.reduceMul, Nat.reduceSub, Int.reduceLE, Int.reduceLT, Int.reduceEq, Int.reduceBEq, Int.reduceBNe, Int.reduceToNat, Int.reduceNeg, Nat.reduceBNe, e2]
    exact ⟨_, .inl (AVle.refl _), h⟩
def st1015 (I : World → Fp → Value → Fp → Prop) (S : List UInt8) : List (List UInt8) × Nat × Nat → St
  | (out, at_, i) => ⟨[(5, .v (.int .i64 i)), (4, .v (.int .i64 at_)), (3, .sl ⟨2022, [], 0⟩ 1 0 out.length), (0, strV S)], [(2022, .own 1 (strsA out)), (9999, .ext I)], []⟩
/-- The document's Lines. -/
theorem c1015 (S : List UInt8) (hS : S.length ≤ 1000000) {Q : AV → Al → Prop} (h : Q (.own 1 (strsA (linesL S))) []) : ACalls Tryd.prog 29 [] [strV S] Q := by
  refine ok1015.N hmix rfl ?_
  intro I
  simp only [cc1015, OI, ↓reduceIte, reduceCtorEq, Nat.reduceAdd, Nat.reduceEqDiff, Nat.reduceBEq, Nat.reduceLT, Nat.reduceLeDiff, Nat.reduceMul, Nat.reduceSub, Int.reduceLE, Int.reduceLT, Int.reduceEq, Int.reduceBEq, Int.reduceBNe, Int.reduceToNat, Int.reduceNeg, Nat.reduceBNe, strV]
  refine W_nilS 3 2022 1 (by decide) rfl rfl (by decide) rfl ?_
  refine W_loop (st1015 I S) (fun a => a.2.2 ≤ S.length ∧ a.2.1 ≤ a.2.2 ∧ a.1.length ≤ a.2.2 ∧ 10 ∉ (S.drop a.2.1).take (a.2.2 - a.2.1) ∧ linesL S = a.1 ++ linesL (S.drop a.2.1)) (fun a => S.length - a.2.2) (fun _ _ => rfl) ⟨([], 0, 0), ⟨by simp, by simp, by simp, by simp, by simp⟩, ?_⟩ ?_
  · simp only [OI, ↓reduceIte, reduceCtorEq, Nat.reduceAdd, Nat.reduceEqDiff, Nat.reduceBEq, Nat.reduceLT, Nat.reduceLeDiff, Nat.reduceMul, Nat.reduceSub, Int.reduceLE, Int.reduceLT, Int.reduceEq, Int.reduceBEq, Int.reduceBNe, Int.reduceToNat, Int.reduceNeg, Nat.reduceBNe, st1015, strV, strsA]
    try rfl
  rintro ⟨out, at_, i⟩ ⟨hi, hat, hol, hno, hln⟩
  simp only at hi hat hol hno hln
  refine W_of_N ok1015.small hmix ?_
  have hsz := ba_size S
  by_cases hil : i < S.length
  · have hil' : (i : Int) < S.length := by omega
    have i0 : (0 : Int) ≤ i := by omega
    obtain ⟨b, hb⟩ : ∃ b, S[i]? = some b := ⟨_, List.getElem?_eq_getElem hil⟩
    have w1 : IntKind.i64.wrap ((i : Int) + 1) = ((i + 1 : Nat) : Int) := by rw [wrI64 (by omega) (by omega)]; omega
    have htk : (S.drop at_).take (i + 1 - at_) = (S.drop at_).take (i - at_) ++ [b] := by
      have e : i + 1 - at_ = (i - at_) + 1 := by omega
      rw [e, List.take_add_one, List.getElem?_drop, show at_ + (i - at_) = i by omega, hb]; rfl
    by_cases hb10 : b = 10
    · subst hb10
      have h10 : (((UInt8.toNat 10 : Nat) : Int) == 10) = true := rfl
      simp only [OI, ↓reduceIte, reduceCtorEq, Nat.reduceAdd, Nat.reduceEqDiff, Nat.reduceBEq, Nat.reduceLT, Nat.reduceLeDiff, Nat.reduceMul, Nat.reduceSub, Int.reduceLE, Int.reduceLT, Int.reduceEq, Int.reduceBEq, Int.reduceBNe, Int.reduceToNat, Int.reduceNeg, Nat.reduceBNe, st1015, strV, strsA, hsz, hil', i0, ba_at, hb, h10, w1]
      refine ⟨⟨by omega, by omega, by omega⟩, ⟨by omega, by omega⟩, ?_⟩
      have hdr : S.drop at_ = (S.drop at_).take (i - at_) ++ 10 :: S.drop (i + 1) := by
        conv => lhs; rw [← List.take_append_drop (i - at_) (S.drop at_)]
        rw [List.drop_drop, show at_ + (i - at_) = i by omega, drop_cons' hb]
      refine ⟨(out ++ [(S.drop at_).take (i - at_)], i + 1, i + 1), ⟨⟨by simp only; omega, Nat.le_refl _, by simp; omega, by simp, ?_⟩, by simp only; omega⟩, ?_⟩
      · simp only
        have e3 : linesL (S.drop at_) = (S.drop at_).take (i - at_) :: linesL (S.drop (i + 1)) := by
          conv => lhs; rw [hdr]
          exact linesL_at hno
        rw [hln, e3, List.append_assoc]
        rfl
      · simp only [OI, ↓reduceIte, reduceCtorEq, Nat.reduceAdd, Nat.reduceEqDiff, Nat.reduceBEq, Nat.reduceLT, Nat.reduceLeDiff, Nat.reduceMul, Nat.reduceSub, Int.reduceLE, Int.reduceLT, Int.reduceEq, Int.reduceBEq, Int.reduceBNe, Int.reduceToNat, Int.reduceNeg, Nat.reduceBNe, st1015, strV, strsA, ba_cut, List.map_append, List.map_cons, List.map_nil, List.length_append, List.length_cons, List.length_nil]
        try rfl
    · have h10 : (((UInt8.toNat b : Nat) : Int) == 10) = false := by
        rw [beq_eq_false_iff_ne]
        intro e
        apply hb10
        apply UInt8.toNat_inj.1
        have : b.toNat = 10 := by omega
        rw [this]; rfl
      simp only [OI, ↓reduceIte, reduceCtorEq, Nat.reduceAdd, Nat.reduceEqDiff, Nat.reduceBEq, Nat.reduceLT, Nat.reduceLeDiff, Nat.reduceMul, Nat.reduceSub, Int.reduceLE, Int.reduceLT, Int.reduceEq, Int.reduceBEq, Int.reduceBNe, Int.reduceToNat, Int.reduceNeg, Nat.reduceBNe, st1015, strV, strsA, hsz, hil', i0, ba_at, hb, h10, w1]
      refine ⟨(out, at_, i + 1), ⟨⟨by simp only; omega, by simp only; omega, by simp only; omega, ?_, hln⟩, by simp only; omega⟩, ?_⟩
      · simp only
        rw [htk]
        simp only [List.mem_append, List.mem_singleton, not_or]
        exact ⟨hno, fun e => hb10 e.symm⟩
      · simp only [OI, ↓reduceIte, reduceCtorEq, Nat.reduceAdd, Nat.reduceEqDiff, Nat.reduceBEq, Nat.reduceLT, Nat.reduceLeDiff, Nat.reduceMul, Nat.reduceSub, Int.reduceLE, Int.reduceLT, Int.reduceEq, Int.reduceBEq, Int.reduceBNe, Int.reduceToNat, Int.reduceNeg, Nat.reduceBNe, st1015, strV, strsA]
        try rfl
  · obtain rfl : i = S.length := by omega
    have htl : (S.drop at_).take (S.length - at_) = S.drop at_ := List.take_of_length_le (by simp)
    rw [htl] at hno
    rw [linesL_no hno] at hln
    by_cases ha : at_ < S.length
    · have ha' : (at_ : Int) < S.length := by omega
      rw [if_neg (by intro e; have := congrArg List.length e; simp at this; omega)] at hln
      simp only [OI, ↓reduceIte, reduceCtorEq, Nat.reduceAdd, Nat.reduceEqDiff, Nat.reduceBEq, Nat.reduceLT, Nat.reduceLeDiff, Nat.reduceMul, Nat.reduceSub, Int.reduceLE, Int.reduceLT, Int.reduceEq, Int.reduceBEq, Int.reduceBNe, Int.reduceToNat, Int.reduceNeg, Nat.reduceBNe, st1015, strV, strsA, hsz, Int.lt_irrefl, ha']
      refine ⟨⟨by omega, by omega⟩, ⟨by omega, by omega⟩, ?_⟩
      have e4 : List.map strV out ++ [AV.v (.string ((⟨S.toArray⟩ : ByteArray).extract at_ S.length))] = strsA (linesL S) := by
        rw [hln, ba_cut, htl, strsA, List.map_append]; rfl
      have e5 : (strsA (linesL S)).length = out.length + 1 := by rw [hln, strsA]; simp
      rw [e4, ← e5, List.take_length]
      exact h
    · have ha' : ¬ (at_ : Int) < S.length := by omega
      rw [if_pos (by apply List.eq_nil_of_length_eq_zero; simp; omega), List.append_nil] at hln
      simp only [OI, ↓reduceIte, reduceCtorEq, Nat.reduceAdd, Nat.reduceEqDiff, Nat.reduceBEq, Nat.reduceLT, Nat.reduceLeDiff, Nat.reduceMul, Nat.reduceSub, Int.reduceLE, Int.reduceLT, Int.reduceEq, Int.reduceBEq, Int.reduceBNe, Int.reduceToNat, Int.reduceNeg, Nat.reduceBNe, st1015, strV, strsA, hsz, Int.lt_irrefl, ha']
      have e5 : out.length = (List.map strV out).length := by simp
      rw [e5, List.take_length, ← hln]
      exact h
end Go.Proofs.YthlehngbadianaaDoor.Ow
set_option maxRecDepth 100000
set_option maxHeartbeats 4000000
namespace Go.Proofs.YthlehngbadianaaDoor.Ow
open Go Go.RowKit Go.Proofs
/- watershed/words.Split -/
def cc1013 : CC := (.seq (.region [⟨none, 2, (.val (.mv (.c (.slice none 0 0)))), [2], none, []⟩]) (.seq (.region [⟨none, 3, (.val (.mv (.c (.slice none 0 0)))), [], none, []⟩]) (.seq (.seq (.region [⟨none, 6, (.val (.mv (.s 0))), [0], none, []⟩, ⟨none, 7, (.callP 16 [(.s 6), (.c (.string ⟨#[32]⟩))]), [6], none, []⟩, ⟨none, 8, (.val (.lnl (.s 7) 1)), [], none, []⟩, ⟨none, 9, (.val (.mv (.c (.int .i64 0)))), [], none, []⟩]) (.block 0 (.loop (.seq (.region [⟨none, 10, (.val (.bin .lss (.s 9) (.s 8))), [], none, []⟩]) (.seq (.cond (.s 10) .skip (.exit 0)) (.seq (.block 1 (.seq (.region [⟨none, 11, (.val (.ia (.s 7) (.s 9) 1)), [10], none, []⟩, ⟨none, 12, (.val (.ld (.s 11) none)), [11], none, []⟩, ⟨none, 5, (.val (.mv (.s 12))), [12], none, []⟩]) (.seq (.seq (.region [⟨none, 13, (.val (.mv (.s 5))), [], none, []⟩, ⟨none, 14, (.callP 47 [(.s 13), (.c (.string ⟨#[35]⟩))]), [13], none, []⟩]) (.cond (.s 14) (.exit 0) .skip)) (.seq (.region [⟨none, 15, (.val (.mv (.s 5))), [14], none, []⟩, ⟨none, 16, (.val (.bin .neq (.s 15) (.c (.string ⟨#[]⟩)))), [15], none, []⟩]) (.cond (.s 16) (.region [⟨none, 17, (.val (.mv (.s 3))), [3, 16], none, []⟩, ⟨none, 18, (.val (.mv (.s 5))), [5], none, []⟩, ⟨none, 19, (.lit 1 [(.s 18)]), [18], none, []⟩, ⟨none, 20, (.app 1 16 false (.s 17) (.s 19)), [17, 19], none, []⟩, ⟨none, 3, (.val (.mv (.s 20))), [20], none, []⟩]) .skip))))) (.region [⟨none, 21, (.val (.bin .add (.s 9) (.c (.int .i64 1)))), [5, 9, 16], none, []⟩, ⟨none, 9, (.val (.mv (.s 21))), [21], none, []⟩]))))))) (.seq (.region [⟨none, 22, (.val (.mv (.s 3))), [3, 5, 7, 8, 9, 10, 14], none, []⟩, ⟨none, 2, (.val (.mv (.s 22))), [22], none, []⟩]) .ret))))
theorem ok1013 : FnOk Tryd.prog 25 cc1013 [(.t 2)] 1 23 := ⟨⟨_, Tryd.func25, by kernel_rfl, by kernel_rfl, by kernel_rfl⟩, by decide, by decide⟩
/- watershed/watershedref08.Split -/
def cc1016 : CC := (.seq (.region [⟨none, 2, (.val (.mv (.c (.slice none 0 0)))), [2], none, []⟩]) (.seq (.region [⟨none, 3, (.val (.mv (.c (.slice none 0 0)))), [], none, []⟩]) (.seq (.region [⟨none, 4, (.val (.mv (.c (.string ⟨#[]⟩)))), [], none, []⟩]) (.seq (.seq (.region [⟨none, 5, (.val (.mv (.c (.int .i64 0)))), [], none, []⟩]) (.block 0 (.loop (.seq (.seq (.region [⟨none, 6, (.val (.mv (.s 5))), [], none, []⟩, ⟨none, 7, (.val (.mv (.s 0))), [], none, []⟩, ⟨none, 8, (.val (.lns (.s 7))), [7], none, []⟩, ⟨none, 9, (.val (.bin .leq (.s 6) (.s 8))), [6, 8], none, []⟩]) (.cond (.s 9) .skip (.exit 0))) (.seq (.block 1 (.seq (.seq (.region [⟨none, 12, (.val (.mv (.s 5))), [9], none, []⟩, ⟨none, 13, (.val (.mv (.s 0))), [], none, []⟩, ⟨none, 14, (.val (.lns (.s 13))), [13], none, []⟩, ⟨none, 15, (.val (.bin .lss (.s 12) (.s 14))), [12, 14], none, []⟩, ⟨none, 16, (.val (.mv (.s 15))), [15], none, []⟩, ⟨(some (16, true)), 17, (.val (.mv (.s 0))), [], none, []⟩, ⟨(some (16, true)), 18, (.val (.mv (.s 5))), [], none, []⟩, ⟨(some (16, true)), 19, (.val (.is (.s 17) (.s 18))), [], none, []⟩, ⟨(some (16, true)), 20, (.val (.bin .neq (.s 19) (.c (.int .u8 32)))), [], none, []⟩, ⟨none, 21, (.val (.pick (.s 16) (.s 20) (.c (.bool false)))), [16], none, []⟩]) (.cond (.s 21) (.seq (.seq (.region [⟨none, 22, (.val (.mv (.s 4))), [21], none, []⟩, ⟨none, 23, (.val (.bin .eql (.s 22) (.c (.string ⟨#[]⟩)))), [22], none, []⟩, ⟨none, 24, (.val (.mv (.s 23))), [23], none, []⟩, ⟨(some (24, true)), 25, (.val (.mv (.s 0))), [], none, []⟩, ⟨(some (24, true)), 26, (.val (.mv (.s 5))), [], none, []⟩, ⟨(some (24, true)), 27, (.val (.is (.s 25) (.s 26))), [], none, []⟩, ⟨(some (24, true)), 28, (.val (.bin .eql (.s 27) (.c (.int .u8 35)))), [], none, []⟩, ⟨none, 29, (.val (.pick (.s 24) (.s 28) (.c (.bool false)))), [24], none, []⟩]) (.cond (.s 29) (.seq (.region [⟨none, 30, (.val (.mv (.s 3))), [0, 3, 4, 5, 17, 18, 19, 20, 25, 26, 27, 28, 29], none, []⟩, ⟨none, 2, (.val (.mv (.s 30))), [30], none, []⟩]) .ret) .skip)) (.seq (.region [⟨none, 31, (.val (.mv (.s 4))), [4, 29], none, []⟩, ⟨none, 32, (.val (.mv (.s 0))), [], none, []⟩, ⟨none, 33, (.val (.mv (.s 5))), [], none, []⟩, ⟨none, 34, (.val (.mv (.s 5))), [], none, []⟩, ⟨none, 35, (.val (.bin .add (.s 34) (.c (.int .i64 1)))), [34], none, []⟩, ⟨none, 36, (.val (.ss (.s 32) (some (.s 33)) (some (.s 35)))), [32, 33, 35], none, []⟩, ⟨none, 37, (.val (.bin .add (.s 31) (.s 36))), [31, 36], none, []⟩, ⟨none, 4, (.val (.mv (.s 37))), [37], none, []⟩]) (.exit 1))) .skip)) (.seq (.seq (.region [⟨none, 38, (.val (.mv (.s 4))), [21], none, []⟩, ⟨none, 39, (.val (.bin .neq (.s 38) (.c (.string ⟨#[]⟩)))), [38], none, []⟩]) (.cond (.s 39) (.region [⟨none, 40, (.val (.mv (.s 3))), [3, 39], none, []⟩, ⟨none, 41, (.val (.mv (.s 4))), [4], none, []⟩, ⟨none, 42, (.lit 1 [(.s 41)]), [41], none, []⟩, ⟨none, 43, (.app 1 16 false (.s 40) (.s 42)), [40, 42], none, []⟩, ⟨none, 3, (.val (.mv (.s 43))), [43], none, []⟩]) .skip)) (.region [⟨none, 4, (.val (.mv (.c (.string ⟨#[]⟩)))), [39], none, []⟩])))) (.region [⟨none, 10, (.val (.mv (.s 5))), [5], none, []⟩, ⟨none, 11, (.val (.bin .add (.s 10) (.c (.int .i64 1)))), [10], none, []⟩, ⟨none, 5, (.val (.mv (.s 11))), [11], none, []⟩])))))) (.seq (.region [⟨none, 44, (.val (.mv (.s 3))), [0, 3, 4, 5, 9, 17, 18, 19, 20, 25, 26, 27, 28], none, []⟩, ⟨none, 2, (.val (.mv (.s 44))), [44], none, []⟩]) .ret)))))
theorem ok1016 : FnOk Tryd.prog 30 cc1016 [(.t 2)] 1 45 := ⟨⟨_, Tryd.func30, by kernel_rfl, by kernel_rfl, by kernel_rfl⟩, by decide, by decide⟩
/-- Pieces up to a comment, but the empty ones. -/
def pcs : List (List UInt8) → List (List UInt8)
  | [] => []
  | p :: ps => if p.head? = some 35 then [] else if p = [] then pcs ps else p :: pcs ps
/-- A line's words. -/
def wordsL (l : List UInt8) : List (List UInt8) := pcs (cutL 32 l)
theorem hasPre (p : List UInt8) (c : UInt8) : Lib.hasPrefix p [c] = decide (p.head? = some c) := by
  cases p with
  | nil => rfl
  | cons b l =>
    simp only [Lib.hasPrefix, List.isPrefixOf, Bool.and_true, List.head?_cons, Option.some.injEq]
    by_cases h : b = c
    · subst h; simp
    · rw [decide_eq_false h]; simpa using fun e => h e.symm
theorem cutL_len (c : UInt8) : ∀ l : List UInt8, (cutL c l).length ≤ l.length + 1
  | [] => by simp [cutL]
  | b :: l => by
    have := cutL_len c l
    rw [cutL]
    split
    · simp; omega
    · split
      · simp
      · rename_i x xs hx
        rw [hx] at this
        simp at this ⊢; omega
theorem cutL_hd (c b : UInt8) (l : List UInt8) (h : b ≠ c) : ∃ x xs, cutL c (b :: l) = (b :: x) :: xs := by
  obtain ⟨x, xs, hx⟩ := List.exists_cons_of_ne_nil (cutL_ne c l)
  exact ⟨x, xs, by rw [cutL, if_neg h, hx]⟩
theorem cutL_sz {c : UInt8} : ∀ {l p : List UInt8}, p ∈ cutL c l → p.length ≤ l.length
  | [], p, h => by simp [cutL] at h; subst h; simp
  | b :: l, p, h => by
    rw [cutL] at h
    split at h
    · rcases List.mem_cons.1 h with rfl | h
      · simp
      · have := cutL_sz h; simp; omega
    · obtain ⟨x, xs, hx⟩ := List.exists_cons_of_ne_nil (cutL_ne c l)
      rw [hx] at h
      rcases List.mem_cons.1 h with rfl | h
      · have := cutL_sz (c := c) (l := l) (p := x) (by rw [hx]; exact List.mem_cons_self ..)
        simp; omega
      · have := cutL_sz (c := c) (l := l) (p := p) (by rw [hx]; exact List.mem_cons_of_mem _ h)
        simp; omega
theorem strE (w : List UInt8) : ((⟨w.toArray⟩ : ByteArray).toList == (⟨#[]⟩ : ByteArray).toList) = decide (w = []) := by
  have e : (⟨#[]⟩ : ByteArray).toList = [] := ba_toL []
  rw [ba_toL, e]
  cases w <;> rfl
def st1013 (I : World → Fp → Value → Fp → Prop) (ps : List (List UInt8)) : List (List UInt8) × Nat → St
  | (out, i) => ⟨[(9, .v (.int .i64 i)), (8, .v (.int .i64 ps.length)), (7, .lst 1 (strsA ps)), (3, .sl ⟨2020, [], 0⟩ 1 0 out.length)], [(2020, .own 1 (strsA out)), (9999, .ext I)], []⟩
theorem strsA_len (l : List (List UInt8)) : (strsA l).length = l.length := by simp [strsA]
theorem strsA_get (l : List (List UInt8)) (i : Nat) : (strsA l)[i]? = l[i]?.map strV := by simp [strsA]
/-- words.Split. -/
theorem c1013 (S : List UInt8) (hS : S.length ≤ 1000000) {Q : AV → Al → Prop} (h : Q (.own 1 (strsA (wordsL S))) []) : ACalls Tryd.prog 25 [] [strV S] Q := by
  refine ok1013.N hmix rfl ?_
  intro I
  simp only [cc1013, OI, ↓reduceIte, reduceCtorEq, Nat.reduceAdd, Nat.reduceEqDiff, Nat.reduceBEq, Nat.reduceLT, Nat.reduceLeDiff, Nat.reduceMul, Nat.reduceSub, Int.reduceLE, Int.reduceLT, Int.reduceEq, Int.reduceBEq, Int.reduceBNe, Int.reduceToNat, Int.reduceNeg, Nat.reduceBNe, strV]
  refine c1008 _ 32 (by rw [ba_size]; omega) ?_
  have e2 : ((cutW 32 (⟨S.toArray⟩ : ByteArray)).map fun s => AV.v (.string s)) = strsA (cutL 32 S) := by rw [cutW, List.map_map]; rfl
  have hpl := cutL_len 32 S
  rw [wordsL] at h
  generalize cutL 32 S = ps at e2 h hpl
  simp only [OI, ↓reduceIte, reduceCtorEq, Nat.reduceAdd, Nat.reduceEqDiff, Nat.reduceBEq, Nat.reduceLT, Nat.reduceLeDiff, Nat.reduceMul, Nat.reduceSub, Int.reduceLE, Int.reduceLT, Int.reduceEq, Int.reduceBEq, Int.reduceBNe, Int.reduceToNat, Int.reduceNeg, Nat.reduceBNe, e2, strsA_len]
  refine W_nilS 3 2020 1 (by decide) rfl rfl (by decide) rfl ?_
  refine W_loop (st1013 I ps) (fun a => a.2 ≤ ps.length ∧ a.1.length ≤ a.2 ∧ pcs ps = a.1 ++ pcs (ps.drop a.2)) (fun a => ps.length - a.2) (fun _ _ => rfl) ⟨([], 0), ⟨by simp, by simp, by simp⟩, ?_⟩ ?_
  · simp only [OI, ↓reduceIte, reduceCtorEq, Nat.reduceAdd, Nat.reduceEqDiff, Nat.reduceBEq, Nat.reduceLT, Nat.reduceLeDiff, Nat.reduceMul, Nat.reduceSub, Int.reduceLE, Int.reduceLT, Int.reduceEq, Int.reduceBEq, Int.reduceBNe, Int.reduceToNat, Int.reduceNeg, Nat.reduceBNe, st1013, strsA, List.map_nil]
    try rfl
  rintro ⟨out, i⟩ ⟨hi, hol, hps⟩
  simp only at hi hol hps
  refine W_of_N ok1013.small hmix ?_
  by_cases hil : i < ps.length
  · have hil' : (i : Int) < ps.length := by omega
    have i0 : (0 : Int) ≤ i := by omega
    obtain ⟨p, hgp⟩ : ∃ p, ps[i]? = some p := ⟨_, List.getElem?_eq_getElem hil⟩
    have w1 : IntKind.i64.wrap ((i : Int) + 1) = ((i + 1 : Nat) : Int) := by rw [wrI64 (by omega) (by omega)]; omega
    rw [drop_cons' hgp, pcs] at hps
    simp only [OI, ↓reduceIte, reduceCtorEq, Nat.reduceAdd, Nat.reduceEqDiff, Nat.reduceBEq, Nat.reduceLT, Nat.reduceLeDiff, Nat.reduceMul, Nat.reduceSub, Int.reduceLE, Int.reduceLT, Int.reduceEq, Int.reduceBEq, Int.reduceBNe, Int.reduceToNat, Int.reduceNeg, Nat.reduceBNe, st1013, hil', i0, strsA_len, strsA_get, hgp, strV]
    refine c1023 _ _ ?_
    have hp1 : Lib.hasPrefix (⟨p.toArray⟩ : ByteArray).data.toList (⟨#[35]⟩ : ByteArray).data.toList = decide (p.head? = some 35) := hasPre p 35
    rw [hp1]
    by_cases h35 : p.head? = some 35
    · rw [if_pos h35, List.append_nil] at hps
      rw [decide_eq_true h35]
      have e5 : out.length = (strsA out).length := (strsA_len out).symm
      simp only [OI, ↓reduceIte, reduceCtorEq, Nat.reduceAdd, Nat.reduceEqDiff, Nat.reduceBEq, Nat.reduceLT, Nat.reduceLeDiff, Nat.reduceMul, Nat.reduceSub, Int.reduceLE, Int.reduceLT, Int.reduceEq, Int.reduceBEq, Int.reduceBNe, Int.reduceToNat, Int.reduceNeg, Nat.reduceBNe]
      rw [e5, List.take_length, ← hps]
      exact ⟨_, if_pos (Nat.le_refl _), h⟩
    · rw [if_neg h35] at hps
      rw [decide_eq_false h35]
      by_cases he : p = []
      · rw [if_pos he] at hps
        have hne : (!((⟨p.toArray⟩ : ByteArray).toList == (⟨#[]⟩ : ByteArray).toList)) = false := by rw [strE, he]; rfl
        have hne' : ((⟨p.toArray⟩ : ByteArray).toList != (⟨#[]⟩ : ByteArray).toList) = false := hne
        simp only [OI, ↓reduceIte, reduceCtorEq, Nat.reduceAdd, Nat.reduceEqDiff, Nat.reduceBEq, Nat.reduceLT, Nat.reduceLeDiff, Nat.reduceMul, Nat.reduceSub, Int.reduceLE, Int.reduceLT, Int.reduceEq, Int.reduceBEq, Int.reduceBNe, Int.reduceToNat, Int.reduceNeg, Nat.reduceBNe, hne', hne, w1]
        refine ⟨(out, i + 1), ⟨⟨by simp only; omega, by simp only; omega, hps⟩, by simp only; omega⟩, ?_⟩
        simp only [OI, ↓reduceIte, reduceCtorEq, Nat.reduceAdd, Nat.reduceEqDiff, Nat.reduceBEq, Nat.reduceLT, Nat.reduceLeDiff, Nat.reduceMul, Nat.reduceSub, Int.reduceLE, Int.reduceLT, Int.reduceEq, Int.reduceBEq, Int.reduceBNe, Int.reduceToNat, Int.reduceNeg, Nat.reduceBNe, st1013]
        try rfl
      · rw [if_neg he] at hps
        have hne : ((⟨p.toArray⟩ : ByteArray).toList == (⟨#[]⟩ : ByteArray).toList) = false := by rw [strE, decide_eq_false he]
        have hne' : ((⟨p.toArray⟩ : ByteArray).toList != (⟨#[]⟩ : ByteArray).toList) = true := by rw [bne, hne]; rfl
        simp only [OI, ↓reduceIte, reduceCtorEq, Nat.reduceAdd, Nat.reduceEqDiff, Nat.reduceBEq, Nat.reduceLT, Nat.reduceLeDiff, Nat.reduceMul, Nat.reduceSub, Int.reduceLE, Int.reduceLT, Int.reduceEq, Int.reduceBEq, Int.reduceBNe, Int.reduceToNat, Int.reduceNeg, Nat.reduceBNe, hne', hne, w1, strsA_len]
        refine ⟨⟨by omega, by omega⟩, ?_⟩
        refine ⟨(out ++ [p], i + 1), ⟨⟨by simp only; omega, by simp; omega, by simp only; rw [hps, List.append_assoc]; rfl⟩, by simp only; omega⟩, ?_⟩
        simp only [OI, ↓reduceIte, reduceCtorEq, Nat.reduceAdd, Nat.reduceEqDiff, Nat.reduceBEq, Nat.reduceLT, Nat.reduceLeDiff, Nat.reduceMul, Nat.reduceSub, Int.reduceLE, Int.reduceLT, Int.reduceEq, Int.reduceBEq, Int.reduceBNe, Int.reduceToNat, Int.reduceNeg, Nat.reduceBNe, st1013, strsA, strV, List.map_append, List.map_cons, List.map_nil, List.length_append, List.length_cons, List.length_nil]
        try rfl
  · obtain rfl : i = ps.length := by omega
    rw [List.drop_length, pcs, List.append_nil] at hps
    have e5 : out.length = (strsA out).length := (strsA_len out).symm
    simp only [OI, ↓reduceIte, reduceCtorEq, Nat.reduceAdd, Nat.reduceEqDiff, Nat.reduceBEq, Nat.reduceLT, Nat.reduceLeDiff, Nat.reduceMul, Nat.reduceSub, Int.reduceLE, Int.reduceLT, Int.reduceEq, Int.reduceBEq, Int.reduceBNe, Int.reduceToNat, Int.reduceNeg, Nat.reduceBNe, st1013, Int.lt_irrefl]
    rw [e5, List.take_length, ← hps]
    exact ⟨_, if_pos (Nat.le_refl _), h⟩
def st1016 (I : World → Fp → Value → Fp → Prop) (S : List UInt8) : List (List UInt8) × List UInt8 × Nat → St
  | (out, w, i) => ⟨[(5, .v (.int .i64 i)), (4, strV w), (3, .sl ⟨2043, [], 0⟩ 1 0 out.length), (0, strV S)], [(2043, .own 1 (strsA out)), (9999, .ext I)], []⟩
theorem b_ne {b : UInt8} {k : Nat} (hk : k < 256) (h : b ≠ UInt8.ofNat k) : ((b.toNat : Int) != (k : Int)) = true := by
  rw [bne_iff_ne]
  intro e
  apply h
  apply UInt8.toNat_inj.1
  have e2 : b.toNat = k := by omega
  rw [e2]
  simp [UInt8.toNat_ofNat', Nat.mod_eq_of_lt hk]
/-- The document's Split. -/
theorem c1016 (S : List UInt8) (hS : S.length ≤ 100000) {Q : AV → Al → Prop} (h : Q (.own 1 (strsA (wordsL S))) []) : ACalls Tryd.prog 30 [] [strV S] Q := by
  refine ok1016.N hmix rfl ?_
  intro I
  simp only [cc1016, OI, ↓reduceIte, reduceCtorEq, Nat.reduceAdd, Nat.reduceEqDiff, Nat.reduceBEq, Nat.reduceLT, Nat.reduceLeDiff, Nat.reduceMul, Nat.reduceSub, Int.reduceLE, Int.reduceLT, Int.reduceEq, Int.reduceBEq, Int.reduceBNe, Int.reduceToNat, Int.reduceNeg, Nat.reduceBNe, strV]
  refine W_nilS 3 2043 1 (by decide) rfl rfl (by decide) rfl ?_
  refine W_loop (st1016 I S) (fun a => (a.2.2 ≤ S.length ∧ a.1.length ≤ a.2.2 ∧ a.2.1.length ≤ a.2.2 ∧ 32 ∉ a.2.1 ∧ a.2.1.head? ≠ some 35 ∧ wordsL S = a.1 ++ pcs (cutL 32 (a.2.1 ++ S.drop a.2.2))) ∨ (a.2.2 = S.length + 1 ∧ a.2.1 = [] ∧ wordsL S = a.1)) (fun a => S.length + 1 - a.2.2) (fun _ _ => rfl) ⟨([], [], 0), .inl ⟨by simp, by simp, by simp, by simp, by simp, by simp [wordsL]⟩, ?_⟩ ?_
  · simp only [OI, ↓reduceIte, reduceCtorEq, Nat.reduceAdd, Nat.reduceEqDiff, Nat.reduceBEq, Nat.reduceLT, Nat.reduceLeDiff, Nat.reduceMul, Nat.reduceSub, Int.reduceLE, Int.reduceLT, Int.reduceEq, Int.reduceBEq, Int.reduceBNe, Int.reduceToNat, Int.reduceNeg, Nat.reduceBNe, st1016, strV, strsA, List.map_nil]
    try rfl
  rintro ⟨out, w, i⟩ hok
  simp only at hok
  refine W_of_N ok1016.small hmix ?_
  have hsz := ba_size S
  rcases hok with ⟨hi, hol, hwl, hw32, hw35, hwd⟩ | ⟨rfl, rfl, hwd⟩
  · have hile : (i : Int) ≤ S.length := by omega
    have i0 : (0 : Int) ≤ i := by omega
    have w1 : IntKind.i64.wrap ((i : Int) + 1) = ((i + 1 : Nat) : Int) := by rw [wrI64 (by omega) (by omega)]; omega
    have flush : ∀ r : List UInt8, pcs (cutL 32 (w ++ 32 :: r)) = (if w = [] then [] else [w]) ++ pcs (cutL 32 r) := by
      intro r
      rw [cutL_at hw32, pcs, if_neg hw35]
      by_cases hw : w = []
      · rw [if_pos hw, if_pos hw]; rfl
      · rw [if_neg hw, if_neg hw]; rfl
    by_cases hil : i < S.length
    · have hil' : (i : Int) < S.length := by omega
      obtain ⟨b, hb⟩ : ∃ b, S[i]? = some b := ⟨_, List.getElem?_eq_getElem hil⟩
      rw [drop_cons' hb] at hwd
      by_cases h32 : b = 32
      · subst h32
        have hb1 : (((UInt8.toNat 32 : Nat) : Int) != 32) = false := rfl
        rw [flush, ← List.append_assoc] at hwd
        by_cases hw : w = []
        · have hne' : ((⟨w.toArray⟩ : ByteArray).toList == (⟨#[]⟩ : ByteArray).toList) = true := by rw [strE, decide_eq_true hw]
          rw [if_pos hw, List.append_nil] at hwd
          simp only [OI, ↓reduceIte, reduceCtorEq, Nat.reduceAdd, Nat.reduceEqDiff, Nat.reduceBEq, Nat.reduceLT, Nat.reduceLeDiff, Nat.reduceMul, Nat.reduceSub, Int.reduceLE, Int.reduceLT, Int.reduceEq, Int.reduceBEq, Int.reduceBNe, Int.reduceToNat, Int.reduceNeg, Nat.reduceBNe, st1016, strV, strsA, hsz, hile, hil', i0, ba_at, hb, hb1, hne', w1]
          refine ⟨(out, [], i + 1), ⟨.inl ⟨by simp only; omega, by simp only; omega, by simp, by simp, by simp, by simpa using hwd⟩, by simp only; omega⟩, ?_⟩
          simp only [OI, ↓reduceIte, reduceCtorEq, Nat.reduceAdd, Nat.reduceEqDiff, Nat.reduceBEq, Nat.reduceLT, Nat.reduceLeDiff, Nat.reduceMul, Nat.reduceSub, Int.reduceLE, Int.reduceLT, Int.reduceEq, Int.reduceBEq, Int.reduceBNe, Int.reduceToNat, Int.reduceNeg, Nat.reduceBNe, st1016, strV, strsA]
          try rfl
        · have hne' : ((⟨w.toArray⟩ : ByteArray).toList == (⟨#[]⟩ : ByteArray).toList) = false := by rw [strE, decide_eq_false hw]
          rw [if_neg hw] at hwd
          simp only [OI, ↓reduceIte, reduceCtorEq, Nat.reduceAdd, Nat.reduceEqDiff, Nat.reduceBEq, Nat.reduceLT, Nat.reduceLeDiff, Nat.reduceMul, Nat.reduceSub, Int.reduceLE, Int.reduceLT, Int.reduceEq, Int.reduceBEq, Int.reduceBNe, Int.reduceToNat, Int.reduceNeg, Nat.reduceBNe, st1016, strV, strsA, hsz, hile, hil', i0, ba_at, hb, hb1, hne', w1]
          refine ⟨⟨by omega, by omega⟩, ?_⟩
          refine ⟨(out ++ [w], [], i + 1), ⟨.inl ⟨by simp only; omega, by simp; omega, by simp, by simp, by simp, by simpa using hwd⟩, by simp only; omega⟩, ?_⟩
          simp only [OI, ↓reduceIte, reduceCtorEq, Nat.reduceAdd, Nat.reduceEqDiff, Nat.reduceBEq, Nat.reduceLT, Nat.reduceLeDiff, Nat.reduceMul, Nat.reduceSub, Int.reduceLE, Int.reduceLT, Int.reduceEq, Int.reduceBEq, Int.reduceBNe, Int.reduceToNat, Int.reduceNeg, Nat.reduceBNe, st1016, strV, strsA, List.map_append, List.map_cons, List.map_nil, List.length_append, List.length_cons, List.length_nil]
          try rfl
      · have hb1 : (((b.toNat : Nat) : Int) != 32) = true := b_ne (k := 32) (by decide) h32
        by_cases h35 : w = [] ∧ b = 35
        · obtain ⟨rfl, rfl⟩ := h35
          have hb2 : (((UInt8.toNat 35 : Nat) : Int) == 35) = true := rfl
          have he : (((⟨([] : List UInt8).toArray⟩ : ByteArray).toList) == (⟨#[]⟩ : ByteArray).toList) = true := by rw [strE]; rfl
          obtain ⟨x, xs, hx⟩ := cutL_hd 32 35 (S.drop (i + 1)) (by decide)
          rw [List.nil_append, hx, pcs, List.head?_cons, if_pos rfl, List.append_nil] at hwd
          simp only [OI, ↓reduceIte, reduceCtorEq, Nat.reduceAdd, Nat.reduceEqDiff, Nat.reduceBEq, Nat.reduceLT, Nat.reduceLeDiff, Nat.reduceMul, Nat.reduceSub, Int.reduceLE, Int.reduceLT, Int.reduceEq, Int.reduceBEq, Int.reduceBNe, Int.reduceToNat, Int.reduceNeg, Nat.reduceBNe, st1016, strV, strsA, hsz, hile, hil', i0, ba_at, hb, hb1, hb2, he]
          have e5 : out.length = (List.map strV out).length := by simp
          rw [e5, List.take_length]
          rw [hwd] at h
          exact h
        · have htk : (S.drop i).take 1 = [b] := by rw [drop_cons' hb]; rfl
          have hext : (⟨S.toArray⟩ : ByteArray).extract i (i + 1) = ⟨[b].toArray⟩ := by rw [ba_cut, show i + 1 - i = 1 by omega, htk]
          have f1 : (if IntKind.i64.max < (((⟨w.toArray⟩ : ByteArray).size + ((⟨S.toArray⟩ : ByteArray).extract i (i + 1)).size : Nat) : Int) then none else some (Value.string ((⟨w.toArray⟩ : ByteArray) ++ (⟨S.toArray⟩ : ByteArray).extract i (i + 1)))) = some (Value.string ⟨(w ++ [b]).toArray⟩) := by
            rw [hext]
            exact Kt.catL (a := w) (s := ⟨[b].toArray⟩) (by rw [Kt.bs_mk]; simp; omega)
          have hwd2 : wordsL S = out ++ pcs (cutL 32 ((w ++ [b]) ++ S.drop (i + 1))) := by rw [hwd]; simp
          have hnew : 32 ∉ w ++ [b] := by
            simp only [List.mem_append, List.mem_singleton, not_or]
            exact ⟨hw32, fun e => h32 e.symm⟩
          have hhd : (w ++ [b]).head? ≠ some 35 := by
            cases w with
            | nil => simp only [List.nil_append, List.head?_cons, ne_eq, Option.some.injEq]; exact fun e => h35 ⟨rfl, e⟩
            | cons c w => simpa using hw35
          by_cases hw : w = []
          · have hb2 : (((b.toNat : Nat) : Int) == 35) = false := by
              have := b_ne (b := b) (k := 35) (by decide) (fun e => h35 ⟨hw, e⟩)
              rw [bne] at this
              simpa using this
            have he : ((⟨w.toArray⟩ : ByteArray).toList == (⟨#[]⟩ : ByteArray).toList) = true := by rw [strE, decide_eq_true hw]
            simp only [OI, ↓reduceIte, reduceCtorEq, Nat.reduceAdd, Nat.reduceEqDiff, Nat.reduceBEq, Nat.reduceLT, Nat.reduceLeDiff, Nat.reduceMul, Nat.reduceSub, Int.reduceLE, Int.reduceLT, Int.reduceEq, Int.reduceBEq, Int.reduceBNe, Int.reduceToNat, Int.reduceNeg, Nat.reduceBNe, st1016, strV, strsA, hsz, hile, hil', i0, ba_at, hb, hb1, hb2, he, w1, f1]
            refine ⟨⟨by omega, by omega⟩, ?_⟩
            refine ⟨(out, w ++ [b], i + 1), ⟨.inl ⟨by simp only; omega, by simp only; omega, by simp; omega, hnew, hhd, hwd2⟩, by simp only; omega⟩, ?_⟩
            simp only [OI, ↓reduceIte, reduceCtorEq, Nat.reduceAdd, Nat.reduceEqDiff, Nat.reduceBEq, Nat.reduceLT, Nat.reduceLeDiff, Nat.reduceMul, Nat.reduceSub, Int.reduceLE, Int.reduceLT, Int.reduceEq, Int.reduceBEq, Int.reduceBNe, Int.reduceToNat, Int.reduceNeg, Nat.reduceBNe, st1016, strV, strsA]
            try rfl
          · have he : ((⟨w.toArray⟩ : ByteArray).toList == (⟨#[]⟩ : ByteArray).toList) = false := by rw [strE, decide_eq_false hw]
            simp only [OI, ↓reduceIte, reduceCtorEq, Nat.reduceAdd, Nat.reduceEqDiff, Nat.reduceBEq, Nat.reduceLT, Nat.reduceLeDiff, Nat.reduceMul, Nat.reduceSub, Int.reduceLE, Int.reduceLT, Int.reduceEq, Int.reduceBEq, Int.reduceBNe, Int.reduceToNat, Int.reduceNeg, Nat.reduceBNe, st1016, strV, strsA, hsz, hile, hil', i0, ba_at, hb, hb1, he, w1, f1]
            refine ⟨⟨by omega, by omega⟩, ?_⟩
            refine ⟨(out, w ++ [b], i + 1), ⟨.inl ⟨by simp only; omega, by simp only; omega, by simp; omega, hnew, hhd, hwd2⟩, by simp only; omega⟩, ?_⟩
            simp only [OI, ↓reduceIte, reduceCtorEq, Nat.reduceAdd, Nat.reduceEqDiff, Nat.reduceBEq, Nat.reduceLT, Nat.reduceLeDiff, Nat.reduceMul, Nat.reduceSub, Int.reduceLE, Int.reduceLT, Int.reduceEq, Int.reduceBEq, Int.reduceBNe, Int.reduceToNat, Int.reduceNeg, Nat.reduceBNe, st1016, strV, strsA]
            try rfl
    · obtain rfl : i = S.length := by omega
      rw [List.drop_length, List.append_nil, cutL_no hw32, pcs, if_neg hw35, pcs] at hwd
      by_cases hw : w = []
      · have he : ((⟨w.toArray⟩ : ByteArray).toList == (⟨#[]⟩ : ByteArray).toList) = true := by rw [strE, decide_eq_true hw]
        rw [if_pos hw, List.append_nil] at hwd
        simp only [OI, ↓reduceIte, reduceCtorEq, Nat.reduceAdd, Nat.reduceEqDiff, Nat.reduceBEq, Nat.reduceLT, Nat.reduceLeDiff, Nat.reduceMul, Nat.reduceSub, Int.reduceLE, Int.reduceLT, Int.reduceEq, Int.reduceBEq, Int.reduceBNe, Int.reduceToNat, Int.reduceNeg, Nat.reduceBNe, st1016, strV, strsA, hsz, Int.le_refl, Int.lt_irrefl, he, w1]
        refine ⟨(out, [], S.length + 1), ⟨.inr ⟨rfl, rfl, hwd⟩, by simp only; omega⟩, ?_⟩
        simp only [OI, ↓reduceIte, reduceCtorEq, Nat.reduceAdd, Nat.reduceEqDiff, Nat.reduceBEq, Nat.reduceLT, Nat.reduceLeDiff, Nat.reduceMul, Nat.reduceSub, Int.reduceLE, Int.reduceLT, Int.reduceEq, Int.reduceBEq, Int.reduceBNe, Int.reduceToNat, Int.reduceNeg, Nat.reduceBNe, st1016, strV, strsA]
        try rfl
      · have he : ((⟨w.toArray⟩ : ByteArray).toList == (⟨#[]⟩ : ByteArray).toList) = false := by rw [strE, decide_eq_false hw]
        rw [if_neg hw] at hwd
        simp only [OI, ↓reduceIte, reduceCtorEq, Nat.reduceAdd, Nat.reduceEqDiff, Nat.reduceBEq, Nat.reduceLT, Nat.reduceLeDiff, Nat.reduceMul, Nat.reduceSub, Int.reduceLE, Int.reduceLT, Int.reduceEq, Int.reduceBEq, Int.reduceBNe, Int.reduceToNat, Int.reduceNeg, Nat.reduceBNe, st1016, strV, strsA, hsz, Int.le_refl, Int.lt_irrefl, he, w1]
        refine ⟨⟨by omega, by omega⟩, ?_⟩
        refine ⟨(out ++ [w], [], S.length + 1), ⟨.inr ⟨rfl, rfl, hwd⟩, by simp only; omega⟩, ?_⟩
        simp only [OI, ↓reduceIte, reduceCtorEq, Nat.reduceAdd, Nat.reduceEqDiff, Nat.reduceBEq, Nat.reduceLT, Nat.reduceLeDiff, Nat.reduceMul, Nat.reduceSub, Int.reduceLE, Int.reduceLT, Int.reduceEq, Int.reduceBEq, Int.reduceBNe, Int.reduceToNat, Int.reduceNeg, Nat.reduceBNe, st1016, strV, strsA, List.map_append, List.map_cons, List.map_nil, List.length_append, List.length_cons, List.length_nil]
        try rfl
  · have hile : ¬ ((S.length + 1 : Nat) : Int) ≤ S.length := by omega
    simp only [OI, ↓reduceIte, reduceCtorEq, Nat.reduceAdd, Nat.reduceEqDiff, Nat.reduceBEq, Nat.reduceLT, Nat.reduceLeDiff, Nat.reduceMul, Nat.reduceSub, Int.reduceLE, Int.reduceLT, Int.reduceEq, Int.reduceBEq, Int.reduceBNe, Int.reduceToNat, Int.reduceNeg, Nat.reduceBNe, st1016, hsz, strV, hile, strsA_len, Nat.le_refl]
    rw [hwd] at h
    have e5 : out.length = (strsA out).length := (strsA_len out).symm
    rw [e5, List.take_length]
    exact h
end Go.Proofs.YthlehngbadianaaDoor.Ow
