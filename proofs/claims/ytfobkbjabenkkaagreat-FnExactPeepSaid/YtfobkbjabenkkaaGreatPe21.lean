/- Parts of the proof, merged: CopyS2. -/
import Derived.Deep.RegionLaw
import Derived.Test.YtfobkbjabenkkaaGreatPe20
/- The reference's copies: a code's, the call's own. -/
namespace Go.Proofs.YtfobkbjabenkkaaGreat
open Go.RowKit
set_option linter.unusedVariables false
set_option linter.unusedSimpArgs false
attribute [local go_sem] Ext.cell

set_option maxRecDepth 100000 in
set_option maxHeartbeats 8000000 in
theorem l19Copy_o (c : GCode) (hS : CodeCopy c) (r : List Value) (lo : Nat) (w : World) (hr : GCode.R lo w r c) :
    Calls Tryz.prog 14 #[.agg r.toArray] w (CopyPost c w) := by
  obtain ⟨u0, u1, rfl, _, h0, h1⟩ := hr
  obtain ⟨ia, ic, rfl⟩ := h0.form
  obtain ⟨is, qs⟩ := c
  obtain ⟨hS0, hS1, hS2⟩ := hS
  dsimp only at *
  obtain ⟨pa, pc, rfl, ul, um, h1⟩ := h1
  have cQ := fun (q : GPat) (hq : q ∈ qs) (r : List Value) (W : World) (hr : GPat.R lo W r q) => l10Copy_o q (hS2 q hq) r lo W hr
  obtain ⟨n, hn⟩ : ∃ n, n = is.length := ⟨_, rfl⟩
  obtain ⟨m, hm⟩ : ∃ m, m = qs.length := ⟨_, rfl⟩
  rw [← hn] at h0 hS0
  rw [← hn, ← hm]
  rw [← hm] at ul hS1
  clear hS2
  replace hn := Lib.hid hn; replace hm := Lib.hid hm; replace h0 := Lib.hid h0; replace h1 := Lib.hid h1; replace cQ := Lib.hid cQ
  obtain ⟨iD, hi0, hz0, hz1, hz2⟩ := info_parts info_PatS; have ID := Lib.hid hi0; have ID0 := Lib.hid hz0; have ID1 := Lib.hid hz1; have ID2 := Lib.hid hz2; clear hi0 hz0 hz1 hz2
  obtain ⟨iJ, hi0, hz0, hz1, hz2⟩ := info_parts info_InsS; have IJ := Lib.hid hi0; have IJ0 := Lib.hid hz0; have IJ1 := Lib.hid hz1; have IJ2 := Lib.hid hz2; clear hi0 hz0 hz1 hz2
  go_enter Tryz.func14, Tryz.ntmps14
  go_upto_region 1 with fail
  have C : RowAt (w.alloc (.cells #[.slice ia n ic, .slice pa m pc] 30)) (w.heap.size) 0 [.slice ia n ic, .slice pa m pc] := RowAt.box w #[.slice ia n ic, .slice pa m pc] 30
  have C := C.below (show Below (w.alloc (.cells #[.slice ia n ic, .slice pa m pc] 30)).heap.size (w.alloc (.cells #[.slice ia n ic, .slice pa m pc] 30)) ((w.alloc (.cells #[.slice ia n ic, .slice pa m pc] 30)).alloc (.cells #[.slice none 0 0, .slice none 0 0] 30)) by go_grown)
  have E : RowAt ((w.alloc (.cells #[.slice ia n ic, .slice pa m pc] 30)).alloc (.cells #[.slice none 0 0, .slice none 0 0] 30)) (w.heap.size + 1) 0 [.slice none 0 0, .slice none 0 0] := by have h := RowAt.box (w.alloc (.cells #[.slice ia n ic, .slice pa m pc] 30)) #[.slice none 0 0, .slice none 0 0] 30; simp only [World.size_alloc] at h; exact h
  have EW : Wr ((w.alloc (.cells #[.slice ia n ic, .slice pa m pc] 30)).alloc (.cells #[.slice none 0 0, .slice none 0 0] 30)) (w.heap.size + 1) 0 2 := by have h := Wr.box (w.alloc (.cells #[.slice ia n ic, .slice pa m pc] 30)) #[.slice none 0 0, .slice none 0 0] 30; simp only [World.size_alloc] at h; exact h
  have hw : Below w.heap.size w ((w.alloc (.cells #[.slice ia n ic, .slice pa m pc] 30)).alloc (.cells #[.slice none 0 0, .slice none 0 0] 30)) := by go_grown
  generalize ((w.alloc (.cells #[.slice ia n ic, .slice pa m pc] 30)).alloc (.cells #[.slice none 0 0, .slice none 0 0] 30)) = w0 at *
  obtain ⟨c_0, c_1⟩ := C.box2; have hsC := World.block_lt_of_cell? _ _ c_0; dsimp only at hsC; have ef_0 := EW.frz 0 (by omega); have ef_1 := EW.frz 1 (by omega); obtain ⟨e_0, e_1⟩ := E.box2; have hsE := World.block_lt_of_cell? _ _ e_0; dsimp only at hsE
  have hsE0 := hsE
  have hO := own_new w0 #[] 57 4 0 rfl (by unfold maxLen; omega) w0.heap.size (Nat.le_refl _)
  replace hO := Lib.hid hO
  go_upto_region 2 with (at_builtin; refine wpList_append_sl _ flatIns rfl _ _ _ rfl w0.heap.size 57 iJ _ 40 Tryz.underlying27 IJ.out IJ0.out IJ1.out IJ2.out rfl w0.heap.size 0 0 [] rfl hO.out lo _ is rfl (h0.out.below GIns.good (hw.trans (by go_grown))) (by rw [← hn.out]; unfold maxLen; omega) (by rw [← hn.out]; omega) (by simp) ?_; rw [← hn.out]; intro g1 c1 w1 hown1 hgrow1 hg1; rw [Nat.zero_add] at hown1 ⊢)
  have hb1 : Below w0.heap.size w0 w1 := below_grown (by go_grown) (by simp) hO.out hgrow1
  obtain ⟨w2, hW2⟩ : ∃ W, W = w1.alloc (.cells #[.slice (some ⟨g1, 0, none⟩) n c1, .slice none 0 0] 30) := ⟨_, rfl⟩
  rw [← hW2]
  have hb2 : Below w1.heap.size w1 w2 := by rw [hW2]; go_grown
  have D2 : RowAt w2 w1.heap.size 0 [.slice (some ⟨g1, 0, none⟩) n c1, .slice none 0 0] := by rw [hW2]; exact RowAt.box w1 #[_, _] _
  have D2W : Wr w2 w1.heap.size 0 2 := by rw [hW2]; exact Wr.box w1 #[_, _] _
  have hs2 : w1.heap.size < w2.heap.size := by rw [hW2]; simp
  have hb02 := hb1.trans (hb2.mono hb1.size)
  have hz01 := hb1.size
  have C2 := C.below hb02
  have E2 := E.below hb02
  have E2W := EW.below hb02
  have hw2 := hw.trans (hb02.mono hw.size)
  have O1 : OwnF 57 4 insRow GIns.wf w0.heap.size w1 (.slice (some ⟨g1, 0, none⟩) n c1) is := ⟨by rw [← hn.out]; simpa using hown1, flatIns.wfs h0.out⟩
  obtain ⟨bs0, S1, nd0, f0⟩ := O1.slO flatIns
  have l0 := S1.lt GIns.ok
  have S2 := S1.below GIns.ok hb2
  obtain ⟨dD, hdD⟩ : ∃ x, x = w1.heap.size := ⟨_, rfl⟩
  rw [← hdD] at D2 D2W l0 hs2 hz01 ⊢
  have hdE : w.heap.size + 1 < dD := by omega
  clear hW2 hb1 hb2 hb02 O1 S1 hown1 hgrow1 hg1 C E EW c_0 c_1 e_0 e_1 ef_0 ef_1 hsC hsE hO hw
  replace S2 := Lib.hid S2; replace nd0 := Lib.hid nd0; replace f0 := Lib.hid f0; replace l0 := Lib.hid l0; replace hdD := Lib.hid hdD
  obtain ⟨c2_0, c2_1⟩ := C2.box2; have hsC2 := World.block_lt_of_cell? _ _ c2_0; dsimp only at hsC2
  go_wp2_with fail
  go_loopw [14] (fun i wr => ∃ (k : Nat) (v : Value) (pss : List (List Nat)), k ≤ m ∧ i = .int .i64 k ∧ Below w.heap.size w wr ∧ w2.heap.size ≤ wr.heap.size ∧ RowAt wr (w.heap.size + 1) 0 [.slice none 0 0, .slice none 0 0] ∧ Wr wr (w.heap.size + 1) 0 2 ∧ RowAt wr dD 0 [.slice (some ⟨g1, 0, none⟩) n c1, v] ∧ Wr wr dD 0 2 ∧ Hid (SlO 57 4 GIns.O bs0 wr (.slice (some ⟨g1, 0, none⟩) n c1) is) ∧ Hid (GrowO 55 1 GPat.O w2.heap.size wr v pss (qs.take k)) ∧ Hid (fpO v pss).Nodup ∧ Hid (∀ b ∈ fpO v pss, w2.heap.size ≤ b)) (fun i _ => m - (intOf i).toNat)
  case atStart => exact ⟨0, .slice none 0 0, [], by omega, rfl, hw2, Nat.le_refl _, E2, E2W, D2, D2W, S2, GrowO.nil, by show List.Nodup _; exact List.nodup_nil, fun b hb => by cases hb⟩
  case round =>
    clear hw2 c2_0 c2_1 hsC2
    obtain ⟨k, v, pss, hk, rfl, hw, hz, E, EW, D, DW, SI, hG, hN, hL⟩ := hrel
    obtain ⟨va, vc, rfl⟩ := hG.out.form
    by_cases hlt : k < m
    · have hvl : (qs.take k).length = k := by rw [List.length_take, ← hm.out]; omega
      obtain ⟨b1, o1, x, s1, _, hab, P1, hx, r1⟩ := (h1.out.below GPat.good hw).get hm hlt
      have Hx := hx
      obtain ⟨v0, rfl, hwf, k0⟩ := hx
      obtain ⟨qa, qc, rfl⟩ := k0.form
      have q_0 : wr.cell? ⟨b1, o1 + k, none⟩ = some (.slice qa x.nodes.length qc) := by simpa using r1 0 _ rfl
      rw [hvl] at hG hN hL D
      clear r1 k0
      have hltf := hG.out.lt GPat.ok
      have hc := cQ.out x (List.mem_of_getElem? P1.out)
      generalize hnq : x.nodes.length = nq at *
      replace hnq := Lib.hid hnq
      subst hab
      replace hltf := Lib.hid hltf; replace hwf := Lib.hid hwf
      go_upto_region 5 with fail
      obtain ⟨w3, hW3⟩ : ∃ W, W = wr.alloc (.cells #[.slice qa nq qc] 55) := ⟨_, rfl⟩
      rw [← hW3]
      have hb3 : Below wr.heap.size wr w3 := by rw [hW3]; go_grown
      have Q : RowAt w3 wr.heap.size 0 [.slice qa nq qc] := by rw [hW3]; exact RowAt.box wr #[_] _
      have cP := fun W (hW : Below w3.heap.size w3 W) => hc _ W (GPat.good.below (GPat.good.below Hx hb3) hW)
      have D3 := D.below hb3
      have D3W := DW.below hb3
      have hs3 : wr.heap.size < w3.heap.size := by rw [hW3]; simp
      obtain ⟨rows, hown0, hrows⟩ := hG.out
      rw [hvl] at hown0
      have hob := own_base hown0
      clear hW3 q_0 hc
      replace cP := Lib.hid cP; replace hown0 := Lib.hid hown0; replace hrows := Lib.hid hrows; replace hob := Lib.hid hob
      have d3f_0 := D3W.frz 0 (by omega); have d3f_1 := D3W.frz 1 (by omega); obtain ⟨d3_0, d3_1⟩ := D3.box2; have hsD3 := World.block_lt_of_cell? _ _ d3_0; dsimp only at hsD3; have q_0 := Q.box1; have hsQ := World.block_lt_of_cell? _ _ q_0; dsimp only at hsQ
      have hzD := hs2
      go_region_law (first
        | (go_simp; go_at_call 34; (with_reducible refine (cP.out _ (by go_grown)).mono ?_); rintro e w4 ⟨r', bs, rfl, O4, hnd, hfr, hb4⟩; obtain ⟨u4, rfl, hwf4, s4⟩ := O4; obtain ⟨a4, c4, hu4⟩ := s4.form; rw [hnq.out] at hu4; subst hu4; have hb34 : Below w3.heap.size w3 w4 := (show Below w3.heap.size w3 w3.drew by go_grown).trans (hb4.mono (by go_grown)); have z4 := hb34.size; have D4 := D3.below hb34; have D4W := D3W.below hb34; have d4f_0 := D4W.frz 0 (by omega); have d4f_1 := D4W.frz 1 (by omega); obtain ⟨d4_0, d4_1⟩ := D4.box2; have hsD4 := World.block_lt_of_cell? _ _ d4_0; dsimp only at hsD4; have own4 := Lib.hid (own_below hown0.out (hb3.trans (hb34.mono (by omega)))); replace s4 := Lib.hid s4; replace hnd := Lib.hid hnd; replace hfr := Lib.hid hfr; clear hb4)
        | (go_loud ((refine step_append_lies _ (by rfl) _ _ _ (by rfl) (w2.heap.size) 55 iD _ 1 24 Tryz.underlying28 ID.out ID0.out ID1.out ID2.out rfl (by omega) _ (k) (rows.flatten) (by rfl) (own_below own4.out (by go_grown)) ⟨w4.heap.size, 0, none⟩ 1 1 [.slice a4 nq c4] (by rfl) (by rfl) (World.news_of_block (cs := #[.slice a4 nq c4]) (t := 55) (fr := (0, 0)) (heap_alloc_new' _ _ _ (by simp))) (by intro u hu; simp at hu; (first | (subst hu; rfl) | (rcases hu with rfl | rfl | rfl | rfl <;> rfl))) (by omega) (by unfold maxLen; omega) (by omega) (by simp; omega) _ rfl ?_; intro g2 cap2 w6 hown hgrow hat hlt2)); have k6 := kept_of hgrow (w := w4) (by go_grown); have D6 := D4.kept k6 (fun h => by have := (hob.out _ h.symm).1; omega); have D6W := D4W.kept k6 (fun h => by have := (hob.out _ h.symm).1; omega); have d6f_0 := D6W.frz 0 (by omega); have d6f_1 := D6W.frz 1 (by omega); obtain ⟨d6_0, d6_1⟩ := D6.box2; have hsD6 := World.block_lt_of_cell? _ _ d6_0; dsimp only at hsD6))
      all_goals
        obtain ⟨w7, hW7⟩ : ∃ W, W = w6.setCell ⟨dD, 1, none⟩ (.slice (some ⟨g2, 0, none⟩) (k + 1) cap2) := ⟨_, rfl⟩
        rw [← hW7]
        have hfr' : ∀ b ∈ bs, w3.heap.size ≤ b := fun b hb => by simpa using hfr.out b hb
        have hb4 : Below wr.heap.size wr w4 := hb3.trans (hb34.mono (by omega))
        have hsA : (w4.alloc (.cells #[.slice a4 nq c4] 55)).heap.size = w4.heap.size + 1 := by simp
        have hz6 : w4.heap.size + 1 ≤ w6.heap.size := by have := hgrow.size; rw [hsA] at this; exact this
        have hz7 : w6.heap.size ≤ w7.heap.size := by rw [hW7]; simp [World.setCell]
        have k7 : Kept (· = dD) w6 w7 := by rw [hW7]; exact Kept.set (S := (· = dD)) (p := ⟨dD, 1, none⟩) (Kept.refl _ _) rfl _
        have D7 : RowAt w7 dD 0 [.slice (some ⟨g1, 0, none⟩) n c1, .slice (some ⟨g2, 0, none⟩) (k + 1) cap2] := by rw [hW7]; exact RowAt.putC D6 (j := 1) (by simp) _
        have D7W : Wr w7 dD 0 2 := by rw [hW7]; exact Wr.set D6W 1 _
        have hkE : ∀ q, q < w2.heap.size → ¬ some q = (Value.slice va k vc).ownBlock := fun q hq h => by have := (hob.out _ h.symm).1; omega
        have E7 : RowAt w7 (w.heap.size + 1) 0 [.slice none 0 0, .slice none 0 0] := ((E.below hb4).kept k6 (hkE _ (by omega))).kept k7 (by omega)
        have E7W : Wr w7 (w.heap.size + 1) 0 2 := ((EW.below hb4).kept k6 (hkE _ (by omega))).kept k7 (by omega)
        have hg2 : w2.heap.size ≤ g2 := by
          rcases hat with h | h
          · exact (hob.out _ h).1
          · rw [hsA] at h; omega
        have hown7 := own_kept hown k7 (fun x hx e => by
          obtain rfl : g2 = x := by simpa [Value.ownBlock] using hx
          omega)
        have hN' := hN.out
        have SI7 := ((SI.out.below GIns.ok hb4).kept GIns.ok k6 (fun b hb => hkE b (by have := l0.out b hb; omega))).kept GIns.ok k7 (fun b hb e => by have := l0.out b hb; omega)
        have hR7 := ((hrows.out.below GPat.ok hb4).kept GPat.ok k6 (fun b hb e => by
          unfold fpO at hN'
          exact (List.nodup_append.1 hN').2.2 b (by rw [← e]; simp) b hb rfl)).kept GPat.ok k7 (fun b hb e => by have := hL.out b (mem_fpO.2 (.inr hb)); omega)
        have S7 := (s4.out.kept GPNode.ok k6 (fun b hb e => by have h1 := (hob.out b e.symm).2; have h2 := hfr' b hb; omega)).kept GPNode.ok k7 (fun b hb e => by have h2 := hfr' b hb; omega)
        have hG7 : GrowO 55 1 GPat.O w2.heap.size w7 (.slice (some ⟨g2, 0, none⟩) (k + 1) cap2) (pss ++ [bs]) (qs.take (k + 1)) := by
          rw [take_snoc' P1.out]
          exact GrowO.push hR7 hvl.symm hown7 rfl ⟨_, rfl, hwf4, S7⟩
        have hN7 := fpO_push (n := k + 1) (cap := cap2) (s0 := wr.heap.size) (s1 := w4.heap.size + 1) hN' hltf.out hnd.out (fun b hb => by have := hfr' b hb; omega) (fun b hb => by have := s4.out.lt GPNode.ok b hb; omega) (by omega) (by rw [← hsA]; exact hat)
        have hB7 : Below w.heap.size w w7 := by
          rw [hW7]
          exact (below_grown2 (wr := wr) (w := w) (base := w.heap.size) hgrow (hb4.trans (by go_grown)) hw (by omega) (own_lo hown0.out (by omega))).setCell (p := ⟨dD, 1, none⟩) (by show w.heap.size ≤ dD; omega) _
        replace hG7 := Lib.hid hG7; replace hN7 := Lib.hid hN7; replace SI7 := Lib.hid SI7
        have hzz : w2.heap.size ≤ w7.heap.size := by omega
        clear hW7 hgrow hown hown7 hlt2 k6 k7 D6 D6W D4 D4W d6_0 d6_1 d6f_0 d6f_1 hsD6 d4_0 d4_1 d4f_0 d4f_1 hsD4 d3_0 d3_1 d3f_0 d3f_1 hsD3 hR7 S7 own4 hrows hown0 q_0 hsQ cP
        go_wp2_with fail
        go_roundw
        case rel => exact ⟨k + 1, _, pss ++ [bs], by omega, by go_num, hB7, hzz, E7, E7W, D7, D7W, SI7, hG7, hN7, fun b hb => by
          rw [fpO_slice, List.flatten_append, List.flatten_singleton] at hb
          rcases List.mem_cons.1 hb with h | h
          · exact h ▸ hg2
          · rcases List.mem_append.1 h with h | h
            · exact hL.out b (mem_fpO.2 (.inr h))
            · have := hfr' b h; omega⟩
        case measure => simp [intOf]; omega
    · obtain rfl : k = m := by omega
      have hG' := hG.out
      rw [List.take_of_length_le (by rw [← hm.out]; exact Nat.le_refl _)] at hG' D hN hL
      rw [← hm.out] at D hN hL
      rw [← hm.out] at hG'
      have ef_0 := EW.frz 0 (by omega); have ef_1 := EW.frz 1 (by omega); obtain ⟨e_0, e_1⟩ := E.box2; have hsE := World.block_lt_of_cell? _ _ e_0; dsimp only at hsE; have df_0 := DW.frz 0 (by omega); have df_1 := DW.frz 1 (by omega); obtain ⟨d_0, d_1⟩ := D.box2; have hsD := World.block_lt_of_cell? _ _ d_0; dsimp only at hsD
      obtain ⟨w9, hw9, g_0, g_1, k9, b9⟩ := set2_box (lo := w.heap.size) (.slice (some ⟨g1, 0, none⟩) n c1) (.slice va k vc) e_0 e_1 (by omega)
      have SI9 := SI.out.kept GIns.ok k9 (fun b hb e => by have := f0.out b hb; omega)
      have SP9 := hG'.slO.kept GPat.ok k9 (fun b hb e => by have := hL.out b hb; omega)
      have hB9 := hw.trans b9
      replace SI9 := Lib.hid SI9; replace SP9 := Lib.hid SP9
      clear hG hG' SI k9 b9
      go_wp2_with fail
      rw [← hw9]
      refine bodyPost_ret (v := .agg #[.slice (some ⟨g1, 0, none⟩) n c1, .slice va k vc]) (by simp [results, Tryz.results14, go_sem, g_0, g_1]) rfl ?_
      exact code_joined (lo := w0.heap.size) (by omega) SI9.out SP9.out nd0.out hN.out f0.out (fun b hb => by have := hL.out b hb; omega) (fun b hb hb2 => by have := l0.out b hb; have := hL.out b hb2; omega) hB9

end Go.Proofs.YtfobkbjabenkkaaGreat
