/- What the functions of the program do, each once: contracts of the logic (part h10). -/
import Derived.Test.YthlehngbadianaaTh9
set_option linter.unusedVariables false
set_option linter.unusedSimpArgs false
set_option linter.unnecessarySimpa false
set_option maxRecDepth 100000
set_option maxHeartbeats 4000000
namespace Go.Proofs.Ythlehngbadianaa.Ow
open Go Go.RowKit Go.Proofs
structure Inv (g : Gr) (cs : List Cl) (m : PM) : Prop where
  cl : m.g.cl = cs
  lo : m.g.lo = g.lo
  nm : ∀ o ∈ m.g.op, ∃ n, n < m.ops.length ∧ o.nm = oNm n
theorem Inv.addP {g : Gr} {cs : List Cl} {m : PM} (h : Inv g cs m) (o : O6) (w : Int) : Inv g cs (Ow.addP m o w) := by
  refine ⟨h.cl, h.lo, fun o' ho => ?_⟩
  simp only [Ow.addP, List.mem_append, List.mem_singleton, List.length_append, List.length_cons, List.length_nil] at ho ⊢
  rcases ho with ho | rfl
  · obtain ⟨n, h1, h2⟩ := h.nm o' ho
    exact ⟨n, by omega, h2⟩
  · exact ⟨m.ops.length, by omega, rfl⟩
theorem opsN_inv {g : Gr} {cs : List Cl} {cl : Int} {m : PM} (h : Inv g cs m) : ∀ i, Inv g cs (opsN g cl m i)
  | 0 => h
  | i + 1 => by
    have ih := opsN_inv (cl := cl) h i
    simp only [opsN]
    split
    · split
      · exact ih.addP _ _
      · exact ih
    · exact ih
theorem lvS_inv {g g' : Gr} {cs : List Cl} {s : PM × List Ch} {f : Int} (h : Inv g cs s.1) : Inv g cs (lvS g' s f).1 := by
  unfold lvS; split
  · exact Inv.addP (m := { s.1 with lv := s.1.lv ++ [f] }) ⟨h.cl, h.lo, h.nm⟩ _ _
  · exact h
theorem arS_inv {g g' : Gr} {cs : List Cl} {s : PM × List Ch} {f : Int} (h : Inv g cs s.1) : Inv g cs (arS g' s f).1 := by
  unfold arS; split
  · exact Inv.addP (m := { s.1 with ar := s.1.ar ++ [f] }) ⟨h.cl, h.lo, h.nm⟩ _ _
  · exact h
theorem oNm_size {n : Nat} (h : n ≤ 1000) : (oNm n).size ≤ 1000 := by
  have := decB_size (v := (n : Int)) (by omega) (by omega)
  have e : (⟨#[111]⟩ : ByteArray).size = 1 := rfl
  have e2 : (oNm n).size = (⟨#[111]⟩ : ByteArray).size + (decB n).size := by rw [oNm, ByteArray.size_append]
  rw [e2, e]; omega
theorem small0 : Small pm0.g := ⟨by simp [pm0], by simp [pm0], by simp [pm0], by simp [pm0], by simp [pm0], by simp [pm0], by simp [pm0]⟩
theorem pmOk0 : PmOk pm0 := ⟨by simp [pm0], by simp [pm0], by simp [pm0]⟩
theorem cutZ_small {g : Gr} (hs : Small g) (cl : Int) : Small (cutZ g cl).1.g ∧ PmOk (cutZ g cl).1 := by
  unfold cutZ
  split
  · exact ⟨small0, pmOk0⟩
  split
  · exact ⟨small0, pmOk0⟩
  rename_i hc hr
  have hc : chk g = 0 := by simpa using hc
  have hF := chk0 hc
  have hfl := flowsL_len g
  have h48 := hF.ch48
  have h24 := hF.op24
  obtain ⟨c, hgc⟩ : ∃ c, g.cl[cl.toNat]? = some c := ⟨_, List.getElem?_eq_getElem (by omega)⟩
  have l2 : 0 ≤ cl := by omega
  have hA : opsN g cl (baseP g c) g.op.length = cutA g cl.toNat := by
    simp only [cutA, hgc, baseP, pm0, Option.toList]
    rw [Int.toNat_of_nonneg l2]
  have iA : Inv g [c] (cutA g cl.toNat) := by
    rw [← hA]
    exact opsN_inv (g := g) (cs := [c]) (m := baseP g c) ⟨rfl, rfl, fun o ho => by simp [baseP] at ho⟩ _
  have szA := (opsN_sz g hF.lo6 c cl g.op.length).1
  rw [hA] at szA
  have iB : Inv g [c] (cutB g cl.toNat).1 := foldl_inv (fun s => Inv g [c] s.1) (lvS g) (fun _ _ h => lvS_inv h) _ _ iA
  have iC : Inv g [c] (cutC g cl.toNat).1 := foldl_inv (fun s => Inv g [c] s.1) (arS g) (fun _ _ h => arS_inv h) _ _ iB
  have szB : Sz (g.op.length + (flowsL g).length) (cutB g cl.toNat) := Sz.fold (fun k s f h => Sz.lvS h g f) _ _ _ szA
  have szC : Sz (g.op.length + (flowsL g).length + (flowsL g).length) (cutC g cl.toNat) := Sz.fold (fun k s f h => Sz.arS h g f) _ _ _ szB
  split
  · exact ⟨small0, pmOk0⟩
  rename_i hl
  have hl1 : (cutD g cl.toNat).g.op.length ≤ 24 := by omega
  have hl2 : (cutD g cl.toNat).g.ch.length ≤ 48 := by omega
  have z := szC.ops
  have z2 := szC.lv
  have z3 := szC.ar
  refine ⟨⟨?_, ?_, Nat.le_trans hl1 (by omega), Nat.le_trans hl2 (by omega), ?_, ?_, ?_⟩, ⟨?_, ?_, ?_⟩⟩
  · show (cutC g cl.toNat).1.g.cl.length ≤ 50
    rw [iC.cl]; simp
  · show (cutC g cl.toNat).1.g.lo.length ≤ 50
    rw [iC.lo]; exact hs.lo
  · intro i c' hc'
    have hc' : (cutC g cl.toNat).1.g.cl[i]? = some c' := hc'
    rw [iC.cl] at hc'
    have := List.mem_of_getElem? hc'
    simp only [List.mem_singleton] at this
    subst this
    exact hs.ncl _ _ hgc
  · intro i c' hc'
    have hc' : (cutC g cl.toNat).1.g.lo[i]? = some c' := hc'
    rw [iC.lo] at hc'
    exact hs.nlo _ _ hc'
  · intro i o ho
    have ho : (cutC g cl.toNat).1.g.op[i]? = some o := ho
    obtain ⟨n, h1, h2⟩ := iC.nm o (List.mem_of_getElem? ho)
    have hl1' : (cutC g cl.toNat).1.g.op.length ≤ 24 := hl1
    rw [h2]; exact oNm_size (by omega)
  · show (cutC g cl.toNat).1.ops.length ≤ 1000000
    have hl1' : (cutC g cl.toNat).1.g.op.length ≤ 24 := hl1
    omega
  · show (cutC g cl.toNat).1.lv.length ≤ 1000000
    omega
  · show (cutC g cl.toNat).1.ar.length ≤ 1000000
    omega
/- watershed/watershedlaw21.CountCuts -/
def cc8 : CC := (.seq (.region [⟨none, 3, (.box 0), [0], none, []⟩, ⟨none, 6, (.val (.mv (.c (.bool false)))), [6], none, []⟩]) (.seq (.seq (.region [⟨none, 23, (.val (.ld (.s 3) (some 4))), [], none, []⟩, ⟨none, 24, (.call 43 [(.s 23)]), [23], none, []⟩]) (.cond (.s 24) (.seq (.region [⟨none, 6, (.val (.mv (.c (.bool true)))), [1, 2, 3, 24], none, []⟩]) .ret) .skip)) (.seq (.region [⟨none, 26, (.val (.ld (.s 3) (some 4))), [24], none, []⟩, ⟨none, 27, (.call 44 [(.s 26)]), [26], none, []⟩, ⟨none, 28, (.val (.mv (.s 1))), [], none, []⟩, ⟨none, 29, (.call 52 [(.s 27), (.s 28)]), [27, 28], none, []⟩, ⟨none, 25, (.val (.mv (.s 29))), [29], none, []⟩, ⟨none, 30, (.val (.ext (.s 25) 0)), [], none, []⟩, ⟨none, 31, (.val (.ext (.s 25) 1)), [25], none, []⟩, ⟨none, 7, (.alloc (.agg #[(.slice none 0 0), (.slice none 0 0), (.slice none 0 0), (.slice none 0 0), (.slice none 0 0), (.slice none 0 0), (.slice none 0 0)])), [], none, []⟩, ⟨none, 0, (.store 7 (.s 7) (.s 30)), [30], none, []⟩, ⟨none, 8, (.val (.mv (.s 31))), [31], none, []⟩]) (.seq (.region [⟨none, 33, (.val (.ld (.s 3) (some 4))), [3], none, []⟩, ⟨none, 34, (.val (.mv (.s 1))), [1], none, []⟩, ⟨none, 35, (.call 53 [(.s 33), (.s 34)]), [33, 34], none, []⟩, ⟨none, 32, (.val (.mv (.s 35))), [35], none, []⟩, ⟨none, 36, (.val (.ext (.s 32) 0)), [], none, []⟩, ⟨none, 37, (.val (.ext (.s 32) 1)), [32], none, []⟩, ⟨none, 9, (.alloc (.agg #[(.slice none 0 0), (.slice none 0 0), (.slice none 0 0), (.slice none 0 0), (.slice none 0 0), (.slice none 0 0), (.slice none 0 0)])), [], none, []⟩, ⟨none, 0, (.store 7 (.s 9) (.s 36)), [36], none, []⟩, ⟨none, 10, (.val (.mv (.s 37))), [37], none, []⟩]) (.seq (.seq (.drawn (.op ⟨none, 38, (.val (.mv (.s 8))), [], none, []⟩ (.op ⟨none, 39, (.val (.mv (.s 10))), [], none, []⟩ (.op ⟨none, 40, (.val (.bin .neq (.s 38) (.s 39))), [], none, []⟩ (.op ⟨none, 41, (.val (.mv (.s 40))), [], none, []⟩ (.op ⟨(some (41, false)), 42, (.val (.fa (.s 7) 0)), [], none, []⟩ (.op ⟨(some (41, false)), 43, (.val (.ld (.s 42) (some 4))), [], none, []⟩ (.op ⟨(some (41, false)), 45, (.val (.fa (.s 9) 0)), [], none, []⟩ (.alt (.op ⟨(some (41, false)), 44, (.call 55 [(.s 43)]), [], none, []⟩ (.op ⟨(some (41, false)), 46, (.val (.ld (.s 45) (some 4))), [], none, []⟩ (.op ⟨(some (41, false)), 47, (.call 54 [(.s 44), (.s 46)]), [], none, []⟩ (.op ⟨(some (41, false)), 48, (.val (.un .not (.s 47))), [], none, []⟩ (.op ⟨none, 49, (.val (.pick (.s 41) (.c (.bool true)) (.s 48))), [], none, []⟩ (.op ⟨none, 50, (.val (.mv (.s 49))), [], none, []⟩ (.op ⟨(some (50, false)), 51, (.val (.fa (.s 7) 4)), [], none, []⟩ (.op ⟨(some (50, false)), 52, (.val (.ld (.s 51) none)), [], none, []⟩ (.op ⟨(some (50, false)), 53, (.val (.fa (.s 9) 4)), [], none, []⟩ (.op ⟨(some (50, false)), 54, (.val (.ld (.s 53) none)), [], none, []⟩ (.op ⟨(some (50, false)), 55, (.call 56 [(.s 52), (.s 54)]), [], none, []⟩ (.op ⟨(some (50, false)), 56, (.val (.un .not (.s 55))), [], none, []⟩ (.op ⟨none, 57, (.val (.pick (.s 50) (.c (.bool true)) (.s 56))), [], none, []⟩ (.op ⟨none, 58, (.val (.mv (.s 57))), [], none, []⟩ (.op ⟨(some (58, false)), 59, (.val (.fa (.s 7) 5)), [], none, []⟩ (.op ⟨(some (58, false)), 60, (.val (.ld (.s 59) none)), [], none, []⟩ (.op ⟨(some (58, false)), 61, (.val (.fa (.s 9) 5)), [], none, []⟩ (.op ⟨(some (58, false)), 62, (.val (.ld (.s 61) none)), [], none, []⟩ (.op ⟨(some (58, false)), 63, (.call 56 [(.s 60), (.s 62)]), [], none, []⟩ (.op ⟨(some (58, false)), 64, (.val (.un .not (.s 63))), [], none, []⟩ (.op ⟨none, 65, (.val (.pick (.s 58) (.c (.bool true)) (.s 64))), [], none, []⟩ (.op ⟨none, 66, (.val (.mv (.s 65))), [], none, []⟩ (.op ⟨(some (66, false)), 67, (.val (.fa (.s 7) 6)), [], none, []⟩ (.op ⟨(some (66, false)), 68, (.val (.ld (.s 67) none)), [], none, []⟩ (.op ⟨(some (66, false)), 69, (.val (.fa (.s 9) 6)), [], none, []⟩ (.op ⟨(some (66, false)), 70, (.val (.ld (.s 69) none)), [], none, []⟩ (.op ⟨(some (66, false)), 71, (.call 56 [(.s 68), (.s 70)]), [], none, []⟩ (.op ⟨(some (66, false)), 72, (.val (.un .not (.s 71))), [], none, []⟩ (.op ⟨none, 73, (.val (.pick (.s 66) (.c (.bool true)) (.s 72))), [], none, []⟩ .done))))))))))))))))))))))))))))) (.op ⟨(some (41, false)), 46, (.val (.ld (.s 45) (some 4))), [], none, []⟩ (.op ⟨(some (41, false)), 44, (.call 55 [(.s 43)]), [], none, []⟩ (.op ⟨(some (41, false)), 47, (.call 54 [(.s 44), (.s 46)]), [], none, []⟩ (.op ⟨(some (41, false)), 48, (.val (.un .not (.s 47))), [], none, []⟩ (.op ⟨none, 49, (.val (.pick (.s 41) (.c (.bool true)) (.s 48))), [], none, []⟩ (.op ⟨none, 50, (.val (.mv (.s 49))), [], none, []⟩ (.op ⟨(some (50, false)), 51, (.val (.fa (.s 7) 4)), [], none, []⟩ (.op ⟨(some (50, false)), 52, (.val (.ld (.s 51) none)), [], none, []⟩ (.op ⟨(some (50, false)), 53, (.val (.fa (.s 9) 4)), [], none, []⟩ (.op ⟨(some (50, false)), 54, (.val (.ld (.s 53) none)), [], none, []⟩ (.op ⟨(some (50, false)), 55, (.call 56 [(.s 52), (.s 54)]), [], none, []⟩ (.op ⟨(some (50, false)), 56, (.val (.un .not (.s 55))), [], none, []⟩ (.op ⟨none, 57, (.val (.pick (.s 50) (.c (.bool true)) (.s 56))), [], none, []⟩ (.op ⟨none, 58, (.val (.mv (.s 57))), [], none, []⟩ (.op ⟨(some (58, false)), 59, (.val (.fa (.s 7) 5)), [], none, []⟩ (.op ⟨(some (58, false)), 60, (.val (.ld (.s 59) none)), [], none, []⟩ (.op ⟨(some (58, false)), 61, (.val (.fa (.s 9) 5)), [], none, []⟩ (.op ⟨(some (58, false)), 62, (.val (.ld (.s 61) none)), [], none, []⟩ (.op ⟨(some (58, false)), 63, (.call 56 [(.s 60), (.s 62)]), [], none, []⟩ (.op ⟨(some (58, false)), 64, (.val (.un .not (.s 63))), [], none, []⟩ (.op ⟨none, 65, (.val (.pick (.s 58) (.c (.bool true)) (.s 64))), [], none, []⟩ (.op ⟨none, 66, (.val (.mv (.s 65))), [], none, []⟩ (.op ⟨(some (66, false)), 67, (.val (.fa (.s 7) 6)), [], none, []⟩ (.op ⟨(some (66, false)), 68, (.val (.ld (.s 67) none)), [], none, []⟩ (.op ⟨(some (66, false)), 69, (.val (.fa (.s 9) 6)), [], none, []⟩ (.op ⟨(some (66, false)), 70, (.val (.ld (.s 69) none)), [], none, []⟩ (.op ⟨(some (66, false)), 71, (.call 56 [(.s 68), (.s 70)]), [], none, []⟩ (.op ⟨(some (66, false)), 72, (.val (.un .not (.s 71))), [], none, []⟩ (.op ⟨none, 73, (.val (.pick (.s 66) (.c (.bool true)) (.s 72))), [], none, []⟩ .done)))))))))))))))))))))))))))))))))))))) (.cond (.s 73) (.seq (.region [⟨none, 6, (.val (.mv (.c (.bool false)))), [2, 7, 8, 9, 10, 38, 39, 40, 41, 42, 43, 44, 45, 46, 47, 48, 49, 50, 51, 52, 53, 54, 55, 56, 57, 58, 59, 60, 61, 62, 63, 64, 65, 66, 67, 68, 69, 70, 71, 72, 73], none, []⟩]) .ret) .skip)) (.seq (.region [⟨none, 75, (.val (.ld (.s 7) (some 7))), [8, 10, 38, 39, 40, 41, 42, 43, 44, 45, 46, 47, 48, 49, 50, 51, 52, 53, 54, 55, 56, 57, 58, 59, 60, 61, 62, 63, 64, 65, 66, 67, 68, 69, 70, 71, 72, 73], none, []⟩, ⟨none, 76, (.val (.mv (.s 2))), [], none, []⟩, ⟨none, 77, (.call 57 [(.s 75), (.s 76)]), [75, 76], none, []⟩, ⟨none, 74, (.val (.mv (.s 77))), [77], none, []⟩, ⟨none, 78, (.val (.ext (.s 74) 0)), [], none, []⟩, ⟨none, 79, (.val (.ext (.s 74) 1)), [74], none, []⟩, ⟨none, 11, (.val (.mv (.s 78))), [78], none, []⟩, ⟨none, 12, (.val (.mv (.s 79))), [79], none, []⟩]) (.seq (.region [⟨none, 81, (.val (.ld (.s 9) (some 7))), [], none, []⟩, ⟨none, 82, (.val (.mv (.s 2))), [], none, []⟩, ⟨none, 83, (.call 58 [(.s 81), (.s 82)]), [81, 82], none, []⟩, ⟨none, 80, (.val (.mv (.s 83))), [83], none, []⟩, ⟨none, 84, (.val (.ext (.s 80) 0)), [], none, []⟩, ⟨none, 85, (.val (.ext (.s 80) 1)), [80], none, []⟩, ⟨none, 13, (.val (.mv (.s 84))), [84], none, []⟩, ⟨none, 14, (.val (.mv (.s 85))), [85], none, []⟩]) (.seq (.region [⟨none, 87, (.val (.ld (.s 7) (some 7))), [], none, []⟩, ⟨none, 88, (.val (.mv (.s 2))), [], none, []⟩, ⟨none, 89, (.call 59 [(.s 87), (.s 88)]), [87, 88], none, []⟩, ⟨none, 86, (.val (.mv (.s 89))), [89], none, []⟩, ⟨none, 90, (.val (.ext (.s 86) 0)), [], none, []⟩, ⟨none, 91, (.val (.ext (.s 86) 1)), [86], none, []⟩, ⟨none, 15, (.val (.mv (.s 90))), [90], none, []⟩, ⟨none, 16, (.val (.mv (.s 91))), [91], none, []⟩]) (.seq (.region [⟨none, 93, (.val (.ld (.s 9) (some 7))), [], none, []⟩, ⟨none, 94, (.val (.mv (.s 2))), [], none, []⟩, ⟨none, 95, (.call 60 [(.s 93), (.s 94)]), [93, 94], none, []⟩, ⟨none, 92, (.val (.mv (.s 95))), [95], none, []⟩, ⟨none, 96, (.val (.ext (.s 92) 0)), [], none, []⟩, ⟨none, 97, (.val (.ext (.s 92) 1)), [92], none, []⟩, ⟨none, 17, (.val (.mv (.s 96))), [96], none, []⟩, ⟨none, 18, (.val (.mv (.s 97))), [97], none, []⟩]) (.seq (.region [⟨none, 99, (.val (.ld (.s 7) (some 7))), [7], none, []⟩, ⟨none, 100, (.val (.mv (.s 2))), [], none, []⟩, ⟨none, 101, (.call 61 [(.s 99), (.s 100)]), [99, 100], none, []⟩, ⟨none, 98, (.val (.mv (.s 101))), [101], none, []⟩, ⟨none, 102, (.val (.ext (.s 98) 0)), [], none, []⟩, ⟨none, 103, (.val (.ext (.s 98) 1)), [98], none, []⟩, ⟨none, 19, (.val (.mv (.s 102))), [102], none, []⟩, ⟨none, 20, (.val (.mv (.s 103))), [103], none, []⟩]) (.seq (.region [⟨none, 105, (.val (.ld (.s 9) (some 7))), [9], none, []⟩, ⟨none, 106, (.val (.mv (.s 2))), [2], none, []⟩, ⟨none, 107, (.call 62 [(.s 105), (.s 106)]), [105, 106], none, []⟩, ⟨none, 104, (.val (.mv (.s 107))), [107], none, []⟩, ⟨none, 108, (.val (.ext (.s 104) 0)), [], none, []⟩, ⟨none, 109, (.val (.ext (.s 104) 1)), [104], none, []⟩, ⟨none, 21, (.val (.mv (.s 108))), [108], none, []⟩, ⟨none, 22, (.val (.mv (.s 109))), [109], none, []⟩]) (.seq (.region [⟨none, 110, (.val (.mv (.s 11))), [11], none, []⟩, ⟨none, 111, (.val (.mv (.s 13))), [13], none, []⟩, ⟨none, 112, (.val (.bin .eql (.s 110) (.s 111))), [110, 111], none, []⟩, ⟨none, 113, (.val (.mv (.s 112))), [112], none, []⟩, ⟨(some (113, true)), 114, (.val (.mv (.s 12))), [12], none, []⟩, ⟨(some (113, true)), 115, (.val (.mv (.s 14))), [14], none, []⟩, ⟨(some (113, true)), 116, (.val (.eqb false (.s 114) (.s 115))), [114, 115], none, []⟩, ⟨none, 117, (.val (.pick (.s 113) (.s 116) (.c (.bool false)))), [113, 116], none, []⟩, ⟨none, 118, (.val (.mv (.s 117))), [117], none, []⟩, ⟨(some (118, true)), 119, (.val (.mv (.s 15))), [15], none, []⟩, ⟨(some (118, true)), 120, (.val (.mv (.s 17))), [17], none, []⟩, ⟨(some (118, true)), 121, (.val (.bin .eql (.s 119) (.s 120))), [119, 120], none, []⟩, ⟨none, 122, (.val (.pick (.s 118) (.s 121) (.c (.bool false)))), [118, 121], none, []⟩, ⟨none, 123, (.val (.mv (.s 122))), [122], none, []⟩, ⟨(some (123, true)), 124, (.val (.mv (.s 16))), [16], none, []⟩, ⟨(some (123, true)), 125, (.val (.mv (.s 18))), [18], none, []⟩, ⟨(some (123, true)), 126, (.val (.eqb false (.s 124) (.s 125))), [124, 125], none, []⟩, ⟨none, 127, (.val (.pick (.s 123) (.s 126) (.c (.bool false)))), [123, 126], none, []⟩, ⟨none, 128, (.val (.mv (.s 127))), [127], none, []⟩, ⟨(some (128, true)), 129, (.val (.mv (.s 19))), [19], none, []⟩, ⟨(some (128, true)), 130, (.val (.mv (.s 21))), [21], none, []⟩, ⟨(some (128, true)), 131, (.val (.bin .eql (.s 129) (.s 130))), [129, 130], none, []⟩, ⟨none, 132, (.val (.pick (.s 128) (.s 131) (.c (.bool false)))), [128, 131], none, []⟩, ⟨none, 133, (.val (.mv (.s 132))), [132], none, []⟩, ⟨(some (133, true)), 134, (.val (.mv (.s 20))), [20], none, []⟩, ⟨(some (133, true)), 135, (.val (.mv (.s 22))), [22], none, []⟩, ⟨(some (133, true)), 136, (.val (.eqb false (.s 134) (.s 135))), [134, 135], none, []⟩, ⟨none, 137, (.val (.pick (.s 133) (.s 136) (.c (.bool false)))), [133, 136], none, []⟩, ⟨none, 6, (.val (.mv (.s 137))), [137], none, []⟩]) .ret))))))))))))
theorem ok8 : FnOk Try.prog 8 cc8 [(.t 6)] 3 138 := ⟨⟨_, Try.func8, by kernel_rfl, by kernel_rfl, by kernel_rfl⟩, by decide, by decide⟩


def st8 (I : World → Fp → Value → Fp → Prop) (m : PM) (e n : Int) : St :=
  ⟨[(73, .v (.bool false)), (2, .v (.int .i64 n)), (7, .ref ⟨1007, [], 0⟩), (9, .ref ⟨1009, [], 0⟩)], [(1007, partA m), (1009, partA m), (9999, .ext I)], []⟩
theorem c8 (g : Gr) (cl n : Int) {Q : AV → Al → Prop} (h : Q (.v (.bool true)) []) : ACalls Try.prog 8 [] [gA g, i64A cl, i64A n] Q := by
  refine ok8.N hmix rfl ?_
  intro I
  simp only [cc8, OI0, OI1, OI2, OI3, OI4, OI5, OI6, OI7, OI8, OI9, OI10, OI11, OI12, ↓reduceIte, reduceCtorEq, Nat.reduceAdd, Nat.reduceEqDiff, Nat.reduceBEq, Nat.reduceLT, Nat.reduceLeDiff, Nat.reduceMul, Nat.reduceSub, Int.reduceLE, Int.reduceLT, Int.reduceEq, Int.reduceBEq, Int.reduceBNe, Int.reduceToNat, Int.reduceNeg, Nat.reduceBNe, forall_eq_or_imp, gA, i64A]
  refine c43 g ?_ fun hs => ?_
  · simp only [OI0, OI1, OI2, OI3, OI4, OI5, OI6, OI7, OI8, OI9, OI10, OI11, OI12, ↓reduceIte, reduceCtorEq, Nat.reduceAdd, Nat.reduceEqDiff, Nat.reduceBEq, Nat.reduceLT, Nat.reduceLeDiff, Nat.reduceMul, Nat.reduceSub, Int.reduceLE, Int.reduceLT, Int.reduceEq, Int.reduceBEq, Int.reduceBNe, Int.reduceToNat, Int.reduceNeg, Nat.reduceBNe, forall_eq_or_imp]
    exact h
  simp only [OI0, OI1, OI2, OI3, OI4, OI5, OI6, OI7, OI8, OI9, OI10, OI11, OI12, ↓reduceIte, reduceCtorEq, Nat.reduceAdd, Nat.reduceEqDiff, Nat.reduceBEq, Nat.reduceLT, Nat.reduceLeDiff, Nat.reduceMul, Nat.reduceSub, Int.reduceLE, Int.reduceLT, Int.reduceEq, Int.reduceBEq, Int.reduceBNe, Int.reduceToNat, Int.reduceNeg, Nat.reduceBNe, forall_eq_or_imp]
  refine c44 g hs ?_
  simp only [OI0, OI1, OI2, OI3, OI4, OI5, OI6, OI7, OI8, OI9, OI10, OI11, OI12, ↓reduceIte, reduceCtorEq, Nat.reduceAdd, Nat.reduceEqDiff, Nat.reduceBEq, Nat.reduceLT, Nat.reduceLeDiff, Nat.reduceMul, Nat.reduceSub, Int.reduceLE, Int.reduceLT, Int.reduceEq, Int.reduceBEq, Int.reduceBNe, Int.reduceToNat, Int.reduceNeg, Nat.reduceBNe, forall_eq_or_imp, gA]
  refine c52 g hs cl ?_
  obtain ⟨hsm, hpm⟩ := cutZ_small hs cl
  have h53 := fun (Q : AV → Al → Prop) hq => c53 g hs cl (Q := Q) hq
  generalize cutZ g cl = z at hsm hpm h53
  obtain ⟨m, e⟩ := z
  simp only at hsm hpm h53
  simp only [OI0, OI1, OI2, OI3, OI4, OI5, OI6, OI7, OI8, OI9, OI10, OI11, OI12, ↓reduceIte, reduceCtorEq, Nat.reduceAdd, Nat.reduceEqDiff, Nat.reduceBEq, Nat.reduceLT, Nat.reduceLeDiff, Nat.reduceMul, Nat.reduceSub, Int.reduceLE, Int.reduceLT, Int.reduceEq, Int.reduceBEq, Int.reduceBNe, Int.reduceToNat, Int.reduceNeg, Nat.reduceBNe, forall_eq_or_imp, gA, partA, intsA, i64A]
  refine h53 _ ?_
  simp only [OI0, OI1, OI2, OI3, OI4, OI5, OI6, OI7, OI8, OI9, OI10, OI11, OI12, ↓reduceIte, reduceCtorEq, Nat.reduceAdd, Nat.reduceEqDiff, Nat.reduceBEq, Nat.reduceLT, Nat.reduceLeDiff, Nat.reduceMul, Nat.reduceSub, Int.reduceLE, Int.reduceLT, Int.reduceEq, Int.reduceBEq, Int.reduceBNe, Int.reduceToNat, Int.reduceNeg, Nat.reduceBNe, forall_eq_or_imp, gA, partA, intsA, i64A, bne_self_eq_false]
  have h1 := hpm.ops
  have h2 := hpm.lv
  have h3 := hpm.ar
  refine W_drawnCut ok8.small hmix (fun _ : Unit => st8 I m e n) (fun _ => True) (fun _ _ => rfl) ?_ ?_
  · apply NT_sound
    simp only [OI0, OI1, OI2, OI3, OI4, OI5, OI6, OI7, OI8, OI9, OI10, OI11, OI12, ↓reduceIte, reduceCtorEq, Nat.reduceAdd, Nat.reduceEqDiff, Nat.reduceBEq, Nat.reduceLT, Nat.reduceLeDiff, Nat.reduceMul, Nat.reduceSub, Int.reduceLE, Int.reduceLT, Int.reduceEq, Int.reduceBEq, Int.reduceBNe, Int.reduceToNat, Int.reduceNeg, Nat.reduceBNe, forall_eq_or_imp, bne_self_eq_false]
    refine ⟨?_, ?_⟩
    all_goals
      refine c55 m.g hsm ?_
      simp only [OI0, OI1, OI2, OI3, OI4, OI5, OI6, OI7, OI8, OI9, OI10, OI11, OI12, ↓reduceIte, reduceCtorEq, Nat.reduceAdd, Nat.reduceEqDiff, Nat.reduceBEq, Nat.reduceLT, Nat.reduceLeDiff, Nat.reduceMul, Nat.reduceSub, Int.reduceLE, Int.reduceLT, Int.reduceEq, Int.reduceBEq, Int.reduceBNe, Int.reduceToNat, Int.reduceNeg, Nat.reduceBNe, forall_eq_or_imp, gA]
      refine c54 m.g hsm ?_
      simp only [OI0, OI1, OI2, OI3, OI4, OI5, OI6, OI7, OI8, OI9, OI10, OI11, OI12, ↓reduceIte, reduceCtorEq, Nat.reduceAdd, Nat.reduceEqDiff, Nat.reduceBEq, Nat.reduceLT, Nat.reduceLeDiff, Nat.reduceMul, Nat.reduceSub, Int.reduceLE, Int.reduceLT, Int.reduceEq, Int.reduceBEq, Int.reduceBNe, Int.reduceToNat, Int.reduceNeg, Nat.reduceBNe, forall_eq_or_imp]
      refine c56 m.ops m.ops h1 ?_
      simp only [OI0, OI1, OI2, OI3, OI4, OI5, OI6, OI7, OI8, OI9, OI10, OI11, OI12, ↓reduceIte, reduceCtorEq, Nat.reduceAdd, Nat.reduceEqDiff, Nat.reduceBEq, Nat.reduceLT, Nat.reduceLeDiff, Nat.reduceMul, Nat.reduceSub, Int.reduceLE, Int.reduceLT, Int.reduceEq, Int.reduceBEq, Int.reduceBNe, Int.reduceToNat, Int.reduceNeg, Nat.reduceBNe, forall_eq_or_imp, decide_true]
      refine c56 m.lv m.lv h2 ?_
      simp only [OI0, OI1, OI2, OI3, OI4, OI5, OI6, OI7, OI8, OI9, OI10, OI11, OI12, ↓reduceIte, reduceCtorEq, Nat.reduceAdd, Nat.reduceEqDiff, Nat.reduceBEq, Nat.reduceLT, Nat.reduceLeDiff, Nat.reduceMul, Nat.reduceSub, Int.reduceLE, Int.reduceLT, Int.reduceEq, Int.reduceBEq, Int.reduceBNe, Int.reduceToNat, Int.reduceNeg, Nat.reduceBNe, forall_eq_or_imp, decide_true]
      refine c56 m.ar m.ar h3 ?_
      simp only [OI0, OI1, OI2, OI3, OI4, OI5, OI6, OI7, OI8, OI9, OI10, OI11, OI12, ↓reduceIte, reduceCtorEq, Nat.reduceAdd, Nat.reduceEqDiff, Nat.reduceBEq, Nat.reduceLT, Nat.reduceLeDiff, Nat.reduceMul, Nat.reduceSub, Int.reduceLE, Int.reduceLT, Int.reduceEq, Int.reduceBEq, Int.reduceBNe, Int.reduceToNat, Int.reduceNeg, Nat.reduceBNe, forall_eq_or_imp, decide_true]
      refine W_of_N ok8.small hmix ?_
      simp only [OI0, OI1, OI2, OI3, OI4, OI5, OI6, OI7, OI8, OI9, OI10, OI11, OI12, ↓reduceIte, reduceCtorEq, Nat.reduceAdd, Nat.reduceEqDiff, Nat.reduceBEq, Nat.reduceLT, Nat.reduceLeDiff, Nat.reduceMul, Nat.reduceSub, Int.reduceLE, Int.reduceLT, Int.reduceEq, Int.reduceBEq, Int.reduceBNe, Int.reduceToNat, Int.reduceNeg, Nat.reduceBNe, forall_eq_or_imp]
      refine ⟨(), trivial, ?_⟩
      simp only [OI0, OI1, OI2, OI3, OI4, OI5, OI6, OI7, OI8, OI9, OI10, OI11, OI12, ↓reduceIte, reduceCtorEq, Nat.reduceAdd, Nat.reduceEqDiff, Nat.reduceBEq, Nat.reduceLT, Nat.reduceLeDiff, Nat.reduceMul, Nat.reduceSub, Int.reduceLE, Int.reduceLT, Int.reduceEq, Int.reduceBEq, Int.reduceBNe, Int.reduceToNat, Int.reduceNeg, Nat.reduceBNe, forall_eq_or_imp, st8, partA, intsA]
  · intro _ _
    refine W_of_N ok8.small hmix ?_
    simp only [OI0, OI1, OI2, OI3, OI4, OI5, OI6, OI7, OI8, OI9, OI10, OI11, OI12, ↓reduceIte, reduceCtorEq, Nat.reduceAdd, Nat.reduceEqDiff, Nat.reduceBEq, Nat.reduceLT, Nat.reduceLeDiff, Nat.reduceMul, Nat.reduceSub, Int.reduceLE, Int.reduceLT, Int.reduceEq, Int.reduceBEq, Int.reduceBNe, Int.reduceToNat, Int.reduceNeg, Nat.reduceBNe, forall_eq_or_imp, st8, partA, intsA]
    refine c57 m n hpm ?_
    simp only [OI0, OI1, OI2, OI3, OI4, OI5, OI6, OI7, OI8, OI9, OI10, OI11, OI12, ↓reduceIte, reduceCtorEq, Nat.reduceAdd, Nat.reduceEqDiff, Nat.reduceBEq, Nat.reduceLT, Nat.reduceLeDiff, Nat.reduceMul, Nat.reduceSub, Int.reduceLE, Int.reduceLT, Int.reduceEq, Int.reduceBEq, Int.reduceBNe, Int.reduceToNat, Int.reduceNeg, Nat.reduceBNe, forall_eq_or_imp, i64A]
    refine c58 m n hpm ?_
    simp only [OI0, OI1, OI2, OI3, OI4, OI5, OI6, OI7, OI8, OI9, OI10, OI11, OI12, ↓reduceIte, reduceCtorEq, Nat.reduceAdd, Nat.reduceEqDiff, Nat.reduceBEq, Nat.reduceLT, Nat.reduceLeDiff, Nat.reduceMul, Nat.reduceSub, Int.reduceLE, Int.reduceLT, Int.reduceEq, Int.reduceBEq, Int.reduceBNe, Int.reduceToNat, Int.reduceNeg, Nat.reduceBNe, forall_eq_or_imp, i64A]
    refine c59 m n hpm ?_
    simp only [OI0, OI1, OI2, OI3, OI4, OI5, OI6, OI7, OI8, OI9, OI10, OI11, OI12, ↓reduceIte, reduceCtorEq, Nat.reduceAdd, Nat.reduceEqDiff, Nat.reduceBEq, Nat.reduceLT, Nat.reduceLeDiff, Nat.reduceMul, Nat.reduceSub, Int.reduceLE, Int.reduceLT, Int.reduceEq, Int.reduceBEq, Int.reduceBNe, Int.reduceToNat, Int.reduceNeg, Nat.reduceBNe, forall_eq_or_imp, i64A]
    refine c60 m n hpm ?_
    simp only [OI0, OI1, OI2, OI3, OI4, OI5, OI6, OI7, OI8, OI9, OI10, OI11, OI12, ↓reduceIte, reduceCtorEq, Nat.reduceAdd, Nat.reduceEqDiff, Nat.reduceBEq, Nat.reduceLT, Nat.reduceLeDiff, Nat.reduceMul, Nat.reduceSub, Int.reduceLE, Int.reduceLT, Int.reduceEq, Int.reduceBEq, Int.reduceBNe, Int.reduceToNat, Int.reduceNeg, Nat.reduceBNe, forall_eq_or_imp, i64A]
    refine c61 m n hpm ?_
    simp only [OI0, OI1, OI2, OI3, OI4, OI5, OI6, OI7, OI8, OI9, OI10, OI11, OI12, ↓reduceIte, reduceCtorEq, Nat.reduceAdd, Nat.reduceEqDiff, Nat.reduceBEq, Nat.reduceLT, Nat.reduceLeDiff, Nat.reduceMul, Nat.reduceSub, Int.reduceLE, Int.reduceLT, Int.reduceEq, Int.reduceBEq, Int.reduceBNe, Int.reduceToNat, Int.reduceNeg, Nat.reduceBNe, forall_eq_or_imp, i64A]
    refine c62 m n hpm ?_
    simp only [OI0, OI1, OI2, OI3, OI4, OI5, OI6, OI7, OI8, OI9, OI10, OI11, OI12, ↓reduceIte, reduceCtorEq, Nat.reduceAdd, Nat.reduceEqDiff, Nat.reduceBEq, Nat.reduceLT, Nat.reduceLeDiff, Nat.reduceMul, Nat.reduceSub, Int.reduceLE, Int.reduceLT, Int.reduceEq, Int.reduceBEq, Int.reduceBNe, Int.reduceToNat, Int.reduceNeg, Nat.reduceBNe, forall_eq_or_imp, i64A, beq_self_eq_true]
    exact h
end Go.Proofs.Ythlehngbadianaa.Ow
