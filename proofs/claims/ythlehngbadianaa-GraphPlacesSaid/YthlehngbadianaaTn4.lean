/- What the functions of the program do, each once: contracts of the logic (part n4). -/
import Derived.Test.YthlehngbadianaaTn3
import Derived.Test.YthlehngbadianaaOwWeakNil
import Derived.Test.YthlehngbadianaaOwEntry
set_option linter.unusedVariables false
set_option linter.unusedSimpArgs false
set_option linter.unnecessarySimpa false
set_option maxRecDepth 100000
namespace Go.Proofs.Ythlehngbadianaa.Ow
open Go Go.RowKit Go.Proofs
/-- What is only read does not lean on what is owned. -/
theorem Rep.e0 {w : World} {F : Fp} {x : AV} {u : Value} {T : Fp} (h : Rep w F x u T) : Rep w E0 x u T := by
  induction h with
  | v h1 hT => exact .v h1 hT
  | junk h1 hT => exact .junk h1 hT
  | lstN hT => exact .lstN hT
  | lst u hes hcap hlen hc hf hr hT ih => exact .lst u hes hcap hlen hc (fun _ _ _ _ h => h) ih hT
  | fptr u hc hf hr hT ih => exact .fptr u hc (fun _ _ h => h) ih hT
  | ownN hes hT => exact .ownN hes hT
  | own u S hes hcap hb hlen hc hr hd ho hS hT ih => exact .own u S hes hcap hb hlen hc ih hd ho hS hT
  | obj u S hb hc hr hd ho hS hT ih => exact .obj u S hb hc ih hd ho hS hT
  | fn hl hr hT ih => exact .fn hl ih hT
  | ext h1 hI => exact .ext h1 fun w' F' k => hI w' F' ⟨let ⟨M, a, b, c⟩ := k.ex; ⟨M, a, fun b' a' h => (b b' a' h).elim, c⟩, fun b a h => (k.fr b a h).imp (fun h => h.elim) id⟩
theorem entry_res {P : Program} {f : FuncId} {args : List AV} {vals : Array Value} {W : World} {x : AV} (hl : vals.size = args.length) (hv : ∀ (i : Nat) y, args[i]? = some y → ∃ u, vals[i]? = some u ∧ ∀ env rt, SV W E0 env rt y u)
    (h : ∀ {Q : AV → Al → Prop}, Q x [] → ACalls P f [] args Q) : Calls P f vals W fun e W' => (∃ v F' env' M' X, e = .returned v ∧ Res W' F' env' M' x v X) ∧ Below W.heap.size W W' := by
  have hc := h (Q := fun r _ => r = x) rfl
  let I : World → Fp → Value → Fp → Prop := fun _ _ _ _ => True
  have hget : ∀ r y, (lentTo [] I).get r = some y → r = HID ∧ y = .ext I := by
    intro r y hy
    simp only [lentTo, List.nil_append, Al.get] at hy
    split at hy
    · rename_i e; exact ⟨e.symm, (Option.some.inj hy).symm⟩
    · simp at hy
  have hok : OkX W E0 E0 (fun _ => .val (.bool false)) (lentTo [] I) := by
    refine ⟨⟨fun _ => E0, ⟨?_, ?_, fun _ _ _ _ _ h => h, fun _ _ h => h.elim⟩, fun _ _ _ _ _ h _ => h⟩, fun _ _ h => h, ?_⟩
    · intro r y hy
      obtain ⟨rfl, rfl⟩ := hget r y hy
      exact ⟨rfl, .ext rfl fun _ _ _ => trivial⟩
    · intro r r' y y' b a _ _ h1
      exact h1.elim
    · intro r y hy
      obtain ⟨rfl, rfl⟩ := hget r y hy
      exact ⟨fun h => by simp [HID, VB] at h, fun _ => ⟨_, rfl⟩⟩
  refine (hc I W E0 (fun _ => .val (.bool false)) vals hok hl ?_ (fun e he => by simp at he)).mono ?_
  · intro i y hy
    obtain ⟨u, h1, h2⟩ := hv i y hy
    exact ⟨u, h1, h2 _ _⟩
  · rintro e W' ⟨v, rfl, r, M', F', env', X, rf', h1, rfl, h3, h4, h5, h6⟩
    obtain ⟨⟨M, a1, a2, a3⟩, _⟩ := h5.kp
    exact ⟨⟨v, F', env', M', X, rfl, h4⟩, a1.to_below fun b a _ hm => a2 b a hm⟩
theorem Comp.v_eq {w : World} {F : Fp} {env : Nat → RLoc} {rt : Al} {x v : Value} {S : Fp} (h : Comp w F env rt (.v x) v S) : v = x := by
  unfold Comp at h
  rw [if_neg (by simp [owned])] at h
  have h8 : Rep w F (.v x) v E0 := h
  cases h8; rfl
theorem Res.v_eq {w : World} {F : Fp} {env : Nat → RLoc} {rt : Al} {x v : Value} {X : Fp} (h : Res w F env rt (.v x) v X) : v = x := by
  obtain ⟨S, h1, _⟩ := h
  exact h1.v_eq
theorem Res.tup3_eq {w : World} {F : Fp} {env : Nat → RLoc} {rt : Al} {a b c v : Value} {X : Fp} (h : Res w F env rt (.tup [.v a, .v b, .v c]) v X) : v = .tuple #[a, b, c] := by
  obtain ⟨us, rfl, hs, S, h1, _⟩ := h
  have hs3 : us.size = 3 := hs
  have e0 : us[0] = a := (h1 0 _ us[0] rfl (by simp)).v_eq
  have e1 : us[1] = b := (h1 1 _ us[1] rfl (by simp)).v_eq
  have e2 : us[2] = c := (h1 2 _ us[2] rfl (by simp)).v_eq
  congr 1
  apply Array.ext_getElem?
  intro i
  match i with
  | 0 => simp [hs3, e0]
  | 1 => simp [hs3, e1]
  | 2 => simp [hs3, e2]
  | i + 3 => rw [Array.getElem?_eq_none (by omega), Array.getElem?_eq_none (by simp)]
/-- A graph's value in memory. -/
structure GrV (W : World) (g : Gr) (v : Value) : Prop where
  val : ∃ s0 s1 s2 s3, v = .agg #[s0, s1, s2, s3] ∧ Rep W E0 (.lst 2 (g.cl.map clA)) s0 E0 ∧ Rep W E0 (.lst 3 (g.lo.map loA)) s1 E0 ∧ Rep W E0 (.lst 6 (g.op.map opA)) s2 E0 ∧ Rep W E0 (.lst 2 (g.ch.map chA)) s3 E0
theorem GrV.sv {W : World} {g : Gr} {v : Value} (h : GrV W g v) (env : Nat → RLoc) (rt : Al) : SV W E0 env rt (gA g) v := by
  obtain ⟨s0, s1, s2, s3, rfl, h0, h1, h2, h3⟩ := h.val
  refine ⟨_, rfl, rfl, fun i c u hc hu => ?_⟩
  match i with
  | 0 => simp at hc hu; subst hc hu; exact LR.of_rep h0
  | 1 => simp at hc hu; subst hc hu; exact LR.of_rep h1
  | 2 => simp at hc hu; subst hc hu; exact LR.of_rep h2
  | 3 => simp at hc hu; subst hc hu; exact LR.of_rep h3
  | i + 4 => simp at hc
theorem GrV.of {W : World} {F : Fp} {env : Nat → RLoc} {rt : Al} {g : Gr} {v : Value} (h : SV W F env rt (gA g) v) : GrV W g v := by
  obtain ⟨us, rfl, hs, hc⟩ := h
  have hs4 : us.size = 4 := hs
  have h0 : Rep W F (.lst 2 (g.cl.map clA)) us[0] E0 := hc 0 _ us[0] rfl (by simp)
  have h1 : Rep W F (.lst 3 (g.lo.map loA)) us[1] E0 := hc 1 _ us[1] rfl (by simp)
  have h2 : Rep W F (.lst 6 (g.op.map opA)) us[2] E0 := hc 2 _ us[2] rfl (by simp)
  have h3 : Rep W F (.lst 2 (g.ch.map chA)) us[3] E0 := hc 3 _ us[3] rfl (by simp)
  refine ⟨us[0], us[1], us[2], us[3], ?_, h0.e0, h1.e0, h2.e0, h3.e0⟩
  congr 1
  apply Array.ext_getElem?
  intro i
  match i with
  | 0 => simp [hs4]
  | 1 => simp [hs4]
  | 2 => simp [hs4]
  | 3 => simp [hs4]
  | i + 4 => rw [Array.getElem?_eq_none (by omega), Array.getElem?_eq_none (by simp)]
theorem GrV.after {W W' : World} {g : Gr} {v : Value} (h : GrV W g v) (hb : Below W.heap.size W W') : GrV W' g v := by
  obtain ⟨s0, s1, s2, s3, rfl, h0, h1, h2, h3⟩ := h.val
  have hkp : Kp W E0 W' E0 E0 := ⟨⟨E0, Agree.below hb E0, fun _ _ h => h.elim, fun _ _ _ h => h⟩, fun _ _ h => .inl h⟩
  exact ⟨s0, s1, s2, s3, rfl, h0.keep hkp, h1.keep hkp, h2.keep hkp, h3.keep hkp⟩
theorem plain5 {W : World} {F : Fp} {env : Nat → RLoc} {rt : Al} {a b c d e : Value} {v : Value} (h : SV W F env rt (.agg [.v a, .v b, .v c, .v d, .v e]) v) : v = .agg #[a, b, c, d, e] ∧ a.oneCell' = true ∧ b.oneCell' = true ∧ c.oneCell' = true ∧ d.oneCell' = true ∧ e.oneCell' = true := by
  obtain ⟨us, rfl, hs, hc⟩ := h
  have hs5 : us.size = 5 := hs
  have key : ∀ {x u : Value}, LR W F env rt (.v x) u → u = x ∧ x.oneCell' = true := by
    intro x u h
    have h' : Rep W F (.v x) u E0 := h
    cases h' with
    | v h1 hT => exact ⟨rfl, h1⟩
  have h0 := key (hc 0 _ us[0] rfl (by simp))
  have h1 := key (hc 1 _ us[1] rfl (by simp))
  have h2 := key (hc 2 _ us[2] rfl (by simp))
  have h3 := key (hc 3 _ us[3] rfl (by simp))
  have h4 := key (hc 4 _ us[4] rfl (by simp))
  refine ⟨?_, h0.2, h1.2, h2.2, h3.2, h4.2⟩
  congr 1
  apply Array.ext_getElem?
  intro i
  match i with
  | 0 => simp [hs5, h0.1]
  | 1 => simp [hs5, h1.1]
  | 2 => simp [hs5, h2.1]
  | 3 => simp [hs5, h3.1]
  | 4 => simp [hs5, h4.1]
  | i + 5 => rw [Array.getElem?_eq_none (by omega), Array.getElem?_eq_none (by simp)]
theorem agg_sv {W : World} {cs : List Value} (h1 : ∀ v ∈ cs, v.oneCell' = true) (env : Nat → RLoc) (rt : Al) : SV W E0 env rt (.agg (cs.map .v)) (.agg cs.toArray) := by
  refine ⟨_, rfl, by simp, fun i c u hc hu => ?_⟩
  rw [List.getElem?_map, Option.map_eq_some_iff] at hc
  obtain ⟨x, hx, rfl⟩ := hc
  have : u = x := by simpa [hx] using hu.symm
  subst this
  exact LR.of_rep (.v (h1 _ (List.mem_of_getElem? hx)) fun _ _ h => h)
theorem v_sv {W : World} {v : Value} (h1 : v.oneCell' = true) (env : Nat → RLoc) (rt : Al) : SV W E0 env rt (.v v) v := by
  have : LR W E0 env rt (.v v) v := LR.of_rep (.v h1 fun _ _ h => h)
  exact this
theorem v_of {W : World} {F : Fp} {env : Nat → RLoc} {rt : Al} {x v : Value} (h : SV W F env rt (.v x) v) : v = x := by
  have h' : Rep W F (.v x) v E0 := h
  cases h'; rfl
theorem rep_v {w : World} {F : Fp} {x u : Value} {T : Fp} (h : Rep w F (.v x) u T) : u = x := by cases h; rfl
/-- The loops' cells. -/
theorem lo_cells {W : World} {lo : List Lo} {v : Value} (h : Rep W E0 (.lst 3 (lo.map loA)) v E0) (hne : lo ≠ []) :
    ∃ B o cap, v = .slice (some ⟨B, o, none⟩) lo.length cap ∧ B < W.heap.size ∧ ∀ (i : Nat) l, lo[i]? = some l → W.cell? ⟨B, o + i * 3 + 1, none⟩ = some (.int .i64 l.2.1) ∧ W.cell? ⟨B, o + i * 3 + 2, none⟩ = some (.int .i64 l.2.2) := by
  generalize hm : lo.map loA = xs at h
  cases h with
  | lstN hT => exact absurd (by simpa using hm) hne
  | @lst _ _ B o cap _ uu hes hcap hlen hc hf hr hT =>
    subst hm
    have key : ∀ (i : Nat) l, lo[i]? = some l → W.cell? ⟨B, o + i * 3 + 1, none⟩ = some (.int .i64 l.2.1) ∧ W.cell? ⟨B, o + i * 3 + 2, none⟩ = some (.int .i64 l.2.2) := by
      intro i l hl
      have hx : (lo.map loA)[i]? = some (loA l) := by rw [List.getElem?_map, hl]; rfl
      have c1 := hc i _ 1 _ hx rfl
      have c2 := hc i _ 2 _ hx rfl
      have r1 := hr i _ 1 _ hx rfl
      have r2 := hr i _ 2 _ hx rfl
      have e1 : uu i 1 = .int .i64 l.2.1 := rep_v r1
      have e2 : uu i 2 = .int .i64 l.2.2 := rep_v r2
      rw [e1] at c1
      rw [e2] at c2
      exact ⟨c1, c2⟩
    refine ⟨B, o, cap, by rw [List.length_map], ?_, key⟩
    obtain ⟨l, hl⟩ : ∃ l, lo[0]? = some l := by
      cases lo with
      | nil => exact absurd rfl hne
      | cons l r => exact ⟨l, rfl⟩
    have := (key 0 l hl).1
    unfold World.cell? at this
    rcases Nat.lt_or_ge B W.heap.size with h | h
    · exact h
    · rw [Array.getElem?_eq_none h] at this; cases this
end Go.Proofs.Ythlehngbadianaa.Ow
