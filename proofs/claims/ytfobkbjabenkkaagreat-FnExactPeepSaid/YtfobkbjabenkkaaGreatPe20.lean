/- Parts of the proof, merged: CopyS. -/
import Derived.Test.YtfobkbjabenkkaaGreatPe19
/- The reference's copies: a pattern's, the call's own. -/
namespace Go.Proofs.YtfobkbjabenkkaaGreat
open Go.RowKit
set_option linter.unusedVariables false
set_option linter.unusedSimpArgs false
attribute [local go_sem] Ext.cell

theorem RowAt.putC {w : World} {b j : Nat} {r : List Value} (h : RowAt w b 0 r) (hj : j < r.length) (u : Value) : RowAt (w.setCell ⟨b, j, none⟩ u) b 0 (r.set j u) := fun i c hc => by
  rw [Nat.zero_add]
  by_cases e : j = i
  · subst e
    rw [List.getElem?_set_self hj] at hc
    obtain rfl := Option.some.inj hc
    have := h j _ (List.getElem?_eq_getElem hj)
    rw [Nat.zero_add] at this
    exact cell_setCell_eq w b j _ this
  · rw [List.getElem?_set_ne e] at hc
    have := h i c hc
    rw [Nat.zero_add] at this
    exact (cell_setCell_ne w b j i _ e).trans this

set_option maxRecDepth 100000 in
set_option maxHeartbeats 8000000 in

set_option maxRecDepth 100000 in
set_option maxHeartbeats 8000000 in
theorem l10Copy_o (q : GPat) (hS : PatSmall q) (r : List Value) (lo : Nat) (w : World) (hr : GPat.R lo w r q) :
    Calls Tryz.prog 34 #[.agg r.toArray] w fun e w' => ∃ r' bs, e = .returned (.agg r'.toArray) ∧ GPat.O bs w' r' q ∧ bs.Nodup ∧ (∀ b ∈ bs, w.heap.size ≤ b) ∧ Below w.heap.size w w' := by
  obtain ⟨xs⟩ := q
  obtain ⟨u0, rfl, _, q0⟩ := hr
  obtain ⟨hS1, hS2⟩ := hS
  dsimp only at *
  obtain ⟨ua, uc, rfl, ul, um, h0⟩ := q0
  obtain ⟨n, hn⟩ : ∃ n, n = xs.length := ⟨_, rfl⟩
  rw [← hn] at ul hS1 ⊢
  replace hn := Lib.hid hn; replace h0 := Lib.hid h0; replace hS2 := Lib.hid hS2
  obtain ⟨iD, hi0, hz0, hz1, hz2⟩ := info_parts info_PNodeS; have ID := Lib.hid hi0; have ID0 := Lib.hid hz0; have ID1 := Lib.hid hz1; have ID2 := Lib.hid hz2; clear hi0 hz0 hz1 hz2
  obtain ⟨iJ, hi0, hz0, hz1, hz2⟩ := info_parts info_IntS; have IJ := Lib.hid hi0; have IJ0 := Lib.hid hz0; have IJ1 := Lib.hid hz1; have IJ2 := Lib.hid hz2; clear hi0 hz0 hz1 hz2
  go_enter Tryz.func34, Tryz.ntmps34
  go_upto_region 2 with fail
  have C : RowAt (w.alloc (.cells #[.slice ua n uc] 55)) (w.heap.size) 0 [.slice ua n uc] := RowAt.box w #[.slice ua n uc] 55
  have C := C.below (show Below (w.alloc (.cells #[.slice ua n uc] 55)).heap.size (w.alloc (.cells #[.slice ua n uc] 55)) ((w.alloc (.cells #[.slice ua n uc] 55)).alloc (.cells #[.slice none 0 0] 55)) by go_grown)
  have E : RowAt ((w.alloc (.cells #[.slice ua n uc] 55)).alloc (.cells #[.slice none 0 0] 55)) (w.heap.size + 1) 0 [.slice none 0 0] := by have h := RowAt.box (w.alloc (.cells #[.slice ua n uc] 55)) #[.slice none 0 0] 55; simp only [World.size_alloc] at h; exact h
  have EW : Wr ((w.alloc (.cells #[.slice ua n uc] 55)).alloc (.cells #[.slice none 0 0] 55)) (w.heap.size + 1) 0 1 := by have h := Wr.box (w.alloc (.cells #[.slice ua n uc] 55)) #[.slice none 0 0] 55; simp only [World.size_alloc] at h; exact h
  have C := C.below (show Below ((w.alloc (.cells #[.slice ua n uc] 55)).alloc (.cells #[.slice none 0 0] 55)).heap.size ((w.alloc (.cells #[.slice ua n uc] 55)).alloc (.cells #[.slice none 0 0] 55)) (((w.alloc (.cells #[.slice ua n uc] 55)).alloc (.cells #[.slice none 0 0] 55)).alloc (.cells #[.slice none 0 0] 55)) by go_grown)
  have E := E.below (show Below ((w.alloc (.cells #[.slice ua n uc] 55)).alloc (.cells #[.slice none 0 0] 55)).heap.size ((w.alloc (.cells #[.slice ua n uc] 55)).alloc (.cells #[.slice none 0 0] 55)) (((w.alloc (.cells #[.slice ua n uc] 55)).alloc (.cells #[.slice none 0 0] 55)).alloc (.cells #[.slice none 0 0] 55)) by go_grown)
  have EW := EW.below (show Below ((w.alloc (.cells #[.slice ua n uc] 55)).alloc (.cells #[.slice none 0 0] 55)).heap.size ((w.alloc (.cells #[.slice ua n uc] 55)).alloc (.cells #[.slice none 0 0] 55)) (((w.alloc (.cells #[.slice ua n uc] 55)).alloc (.cells #[.slice none 0 0] 55)).alloc (.cells #[.slice none 0 0] 55)) by go_grown)
  have N : RowAt (((w.alloc (.cells #[.slice ua n uc] 55)).alloc (.cells #[.slice none 0 0] 55)).alloc (.cells #[.slice none 0 0] 55)) (w.heap.size + 1 + 1) 0 [.slice none 0 0] := by have h := RowAt.box ((w.alloc (.cells #[.slice ua n uc] 55)).alloc (.cells #[.slice none 0 0] 55)) #[.slice none 0 0] 55; simp only [World.size_alloc] at h; exact h
  have NW : Wr (((w.alloc (.cells #[.slice ua n uc] 55)).alloc (.cells #[.slice none 0 0] 55)).alloc (.cells #[.slice none 0 0] 55)) (w.heap.size + 1 + 1) 0 1 := by have h := Wr.box ((w.alloc (.cells #[.slice ua n uc] 55)).alloc (.cells #[.slice none 0 0] 55)) #[.slice none 0 0] 55; simp only [World.size_alloc] at h; exact h
  have hw : Below w.heap.size w (((w.alloc (.cells #[.slice ua n uc] 55)).alloc (.cells #[.slice none 0 0] 55)).alloc (.cells #[.slice none 0 0] 55)) := by go_grown
  generalize (((w.alloc (.cells #[.slice ua n uc] 55)).alloc (.cells #[.slice none 0 0] 55)).alloc (.cells #[.slice none 0 0] 55)) = w0 at *
  have c_0 := C.box1; have hsC := World.block_lt_of_cell? _ _ c_0; dsimp only at hsC; have ef_0 := EW.frz 0 (by omega); have e_0 := E.box1; have hsE := World.block_lt_of_cell? _ _ e_0; dsimp only at hsE; have nf_0 := NW.frz 0 (by omega); have n_0 := N.box1; have hsN := World.block_lt_of_cell? _ _ n_0; dsimp only at hsN
  have hsN0 := hsN
  go_wp2_with fail
  go_loopw [10] (fun i wr => ∃ (k : Nat) (v : Value) (pss : List (List Nat)), k ≤ n ∧ i = .int .i64 k ∧ Below w.heap.size w wr ∧ w0.heap.size ≤ wr.heap.size ∧ RowAt wr (w.heap.size + 1) 0 [.slice none 0 0] ∧ Wr wr (w.heap.size + 1) 0 1 ∧ RowAt wr (w.heap.size + 1 + 1) 0 [v] ∧ Wr wr (w.heap.size + 1 + 1) 0 1 ∧ Hid (GrowO 77 4 GPNode.O w0.heap.size wr v pss (xs.take k)) ∧ Hid (fpO v pss).Nodup ∧ Hid (∀ b ∈ fpO v pss, w0.heap.size ≤ b)) (fun i _ => n - (intOf i).toNat)
  case atStart => exact ⟨0, .slice none 0 0, [], by omega, rfl, hw, Nat.le_refl _, E, EW, N, NW, GrowO.nil, by show List.Nodup _; exact List.nodup_nil, fun b hb => by cases hb⟩
  case round =>
    clear hw c_0 e_0 n_0 ef_0 nf_0 hsC hsE hsN
    obtain ⟨k, v, pss, hk, rfl, hw, hz, E2, E2W, N2, N2W, hG, hN, hL⟩ := hrel
    obtain ⟨va, vc, rfl⟩ := hG.out.form
    by_cases hlt : k < n
    · have hvl : (xs.take k).length = k := by rw [List.length_take, ← hn.out]; omega
      obtain ⟨b1, o1, x, s1, _, rfl, P1, hx, r1⟩ := (h0.out.below GPNode.good hw).get hn hlt
      obtain ⟨v0, rfl, hwf, k0⟩ := hx
      obtain ⟨qa, qc, rfl⟩ := k0.form
      obtain ⟨e_0, e_1, e_2, e_3⟩ := r1.cells4
      have hkl := hS2.out x (List.mem_of_getElem? P1.out)
      rw [hvl] at hG hN hL N2
      clear r1
      have hltf := hG.out.lt GPNode.ok
      obtain ⟨kd, nn, s, ks⟩ := x
      dsimp only at *
      obtain ⟨m, hm⟩ : ∃ m, m = ks.length := ⟨_, rfl⟩
      rw [← hm] at e_3 hkl
      replace hm := Lib.hid hm; replace k0 := Lib.hid k0; replace hltf := Lib.hid hltf; replace hwf := Lib.hid hwf
      have e2f_0 := E2W.frz 0 (by omega); have e2_0 := E2.box1; have hsE2 := World.block_lt_of_cell? _ _ e2_0; dsimp only at hsE2; have n2f_0 := N2W.frz 0 (by omega); have n2_0 := N2.box1; have hsN2 := World.block_lt_of_cell? _ _ n2_0; dsimp only at hsN2
      go_upto_region 5 with fail
      obtain ⟨w3, hW3⟩ : ∃ W, W = wr.alloc (.cells #[.int .i64 kd, .int .i64 nn, .string s, .slice qa m qc] 77) := ⟨_, rfl⟩
      rw [← hW3]
      have hb3 : Below wr.heap.size wr w3 := by rw [hW3]; go_grown
      have D : RowAt w3 wr.heap.size 0 [.int .i64 kd, .int .i64 nn, .string s, .slice qa m qc] := by rw [hW3]; exact RowAt.box wr #[_, _, _, _] _
      have DW : Wr w3 wr.heap.size 0 4 := by rw [hW3]; exact Wr.box wr #[_, _, _, _] _
      have hs3 : wr.heap.size + 1 ≤ w3.heap.size := by rw [hW3]; simp
      have hs3' : w3.heap.size ≤ wr.heap.size + 1 := by rw [hW3]; simp
      clear hW3 e_0 e_1 e_2 e_3
      have df_0 := DW.frz 0 (by omega); have df_1 := DW.frz 1 (by omega); have df_2 := DW.frz 2 (by omega); have df_3 := DW.frz 3 (by omega); obtain ⟨d_0, d_1, d_2, d_3⟩ := D.box4; have hsD := World.block_lt_of_cell? _ _ d_0; dsimp only at hsD
      have hO := own_new w3 #[] 3 1 0 rfl (by unfold maxLen; omega) (wr.heap.size + 1) (by omega)
      replace hO := Lib.hid hO
      have k1 : Hid (Sl IntR 1 lo wr (.slice qa m qc) ks) := by have h := k0.out; rw [← hm.out] at h; exact h
      go_upto_region 6 with (at_builtin; go_loud (refine wpList_append_sl _ flatInt rfl _ _ _ rfl (wr.heap.size + 1) 3 iJ _ 8 Tryz.underlying60 IJ.out IJ0.out IJ1.out IJ2.out rfl w3.heap.size 0 0 [] rfl hO.out lo _ ks rfl ((k1.out.below IntR.good hb3).below IntR.good (by go_grown)) (by rw [← hm.out]; unfold maxLen; omega) (by rw [← hm.out]; omega) (by simp; omega) ?_; rw [← hm.out]; intro g4 c4 w4 hown4 hgrow4 hg4; rw [Nat.zero_add] at hown4 ⊢; have k4 := kept_of hgrow4 (w := w3) (by go_grown); have D4 := D.kept k4 (fun h => by injection h with h; omega); have D4W := DW.kept k4 (fun h => by injection h with h; omega); have d4f_0 := D4W.frz 0 (by omega); have d4f_1 := D4W.frz 1 (by omega); have d4f_2 := D4W.frz 2 (by omega); have d4f_3 := D4W.frz 3 (by omega); obtain ⟨d4_0, d4_1, d4_2, d4_3⟩ := D4.box4; have hsD4 := World.block_lt_of_cell? _ _ d4_0; dsimp only at hsD4))
      obtain ⟨w5, hW5⟩ : ∃ W, W = w4.setCell ⟨wr.heap.size, 3, none⟩ (.slice (some ⟨g4, 0, none⟩) m c4) := ⟨_, rfl⟩
      rw [← hW5]
      have hb34 : Below (wr.heap.size + 1) w3 w4 := below_grown (by go_grown) (by simp; omega) hO.out hgrow4
      have hb4 : Below wr.heap.size wr w4 := hb3.trans (hb34.mono (by omega))
      have hb5 : Below wr.heap.size wr w5 := by rw [hW5]; exact hb4.setCell (p := ⟨wr.heap.size, 3, none⟩) (Nat.le_refl _) _
      have k5 : Kept (· = wr.heap.size) w4 w5 := by rw [hW5]; exact Kept.set (S := (· = wr.heap.size)) (p := ⟨wr.heap.size, 3, none⟩) (Kept.refl _ _) rfl _
      have D5 : RowAt w5 wr.heap.size 0 [.int .i64 kd, .int .i64 nn, .string s, .slice (some ⟨g4, 0, none⟩) m c4] := by rw [hW5]; exact RowAt.putC D4 (j := 3) (by simp) _
      obtain ⟨hkw0, hkw1, hkw2⟩ := hwf.out
      have O5 : OwnF 3 1 intRow I64 (wr.heap.size + 1) w5 (.slice (some ⟨g4, 0, none⟩) m c4) ks := by
        refine OwnF.kept (S := (· = wr.heap.size)) ⟨by rw [← hm.out]; simpa using hown4, flatInt.wfs k1.out⟩ k5 (fun x hx e => ?_)
        have h := own_base hown4 x hx
        omega
      obtain ⟨bs, S5, nd5, f5⟩ := O5.slO flatInt
      have N5 := N2.below hb5
      have N5W := N2W.below hb5
      have hz4 := hb4.size
      have hz5 := hb5.size
      have hz45 : w4.heap.size ≤ w5.heap.size := by rw [hW5]; simp [World.setCell]
      obtain ⟨rows, hown0, hrows⟩ := hG.out
      rw [hvl] at hown0
      have hob := own_base hown0
      have own5 := own_below hown0 hb5
      have hwf5 : (⟨kd, nn, s, ks⟩ : GPNode).wf := hwf.out
      clear hW5 D DW D4 D4W d_0 d_1 d_2 d_3 df_0 df_1 df_2 df_3 d4_0 d4_1 d4_2 d4_3 d4f_0 d4f_1 d4f_2 d4f_3 hsD4 hown4 hgrow4 hg4 k4 hO O5 hs3 hs3' e2_0 e2f_0 n2_0 n2f_0 hsE2 hsN2
      replace S5 := Lib.hid S5; replace nd5 := Lib.hid nd5; replace f5 := Lib.hid f5; replace hob := Lib.hid hob; replace own5 := Lib.hid own5; replace hrows := Lib.hid hrows; replace hown0 := Lib.hid hown0; replace hwf5 := Lib.hid hwf5
      have n5f_0 := N5W.frz 0 (by omega); have n5_0 := N5.box1; have hsN5 := World.block_lt_of_cell? _ _ n5_0; dsimp only at hsN5; obtain ⟨d5_0, d5_1, d5_2, d5_3⟩ := D5.box4; have hsD5 := World.block_lt_of_cell? _ _ d5_0; dsimp only at hsD5
      go_upto_region 7 with ((at_builtin; refine wpList_append_lies _ rfl _ _ _ rfl (w0.heap.size) 77 iD _ 4 56 Tryz.underlying53 ID.out ID0.out ID1.out ID2.out rfl (by omega) (.slice va k vc) (k) (rows.flatten) rfl (own_below own5.out (by go_grown)) ⟨w5.heap.size, 0, none⟩ 1 1 [.int .i64 kd, .int .i64 nn, .string s, .slice (some ⟨g4, 0, none⟩) m c4] rfl rfl (World.news_of_block (cs := #[.int .i64 kd, .int .i64 nn, .string s, .slice (some ⟨g4, 0, none⟩) m c4]) (t := 77) (fr := (0, 0)) (heap_alloc_new' _ _ _ (by simp))) (by intro u hu; simp at hu; (first | (subst hu; rfl) | (rcases hu with rfl | rfl | rfl | rfl <;> rfl) | (rcases hu with rfl | rfl | rfl | rfl | rfl | rfl | rfl | rfl | rfl <;> rfl))) (by omega) (by unfold maxLen; omega) (by omega) (by simp; omega) _ rfl ?_; intro g2 cap2 w6 hown hgrow hat hlt2); have k6 := kept_of hgrow (w := w5) (by go_grown); have N6 := N5.kept k6 (fun h => by have := (hob.out _ h.symm).1; omega); have N6W := N5W.kept k6 (fun h => by have := (hob.out _ h.symm).1; omega); have n6f_0 := N6W.frz 0 (by omega); have n6_0 := N6.box1; have hsN6 := World.block_lt_of_cell? _ _ n6_0; dsimp only at hsN6)
      obtain ⟨w7, hW7⟩ : ∃ W, W = w6.setCell ⟨w.heap.size + 1 + 1, 0, none⟩ (.slice (some ⟨g2, 0, none⟩) (k + 1) cap2) := ⟨_, rfl⟩
      rw [← hW7]
      have hsA : (w5.alloc (.cells #[.int .i64 kd, .int .i64 nn, .string s, .slice (some ⟨g4, 0, none⟩) m c4] 77)).heap.size = w5.heap.size + 1 := by simp
      have hz6 : w5.heap.size + 1 ≤ w6.heap.size := by have := hgrow.size; rw [hsA] at this; exact this
      have hz7 : w6.heap.size ≤ w7.heap.size := by rw [hW7]; simp [World.setCell]
      have k7 : Kept (· = w.heap.size + 1 + 1) w6 w7 := by rw [hW7]; exact Kept.set (S := (· = w.heap.size + 1 + 1)) (p := ⟨w.heap.size + 1 + 1, 0, none⟩) (Kept.refl _ _) rfl _
      have N7 : RowAt w7 (w.heap.size + 1 + 1) 0 [.slice (some ⟨g2, 0, none⟩) (k + 1) cap2] := by rw [hW7]; exact RowAt.putC N6 (j := 0) (by simp) _
      have N7W : Wr w7 (w.heap.size + 1 + 1) 0 1 := by rw [hW7]; exact Wr.set N6W 0 _
      have E7 : RowAt w7 (w.heap.size + 1) 0 [.slice none 0 0] := ((E2.below hb5).kept k6 (fun h => by have := (hob.out _ h.symm).1; omega)).kept k7 (by omega)
      have E7W : Wr w7 (w.heap.size + 1) 0 1 := ((E2W.below hb5).kept k6 (fun h => by have := (hob.out _ h.symm).1; omega)).kept k7 (by omega)
      have hg2 : w0.heap.size ≤ g2 := by
        rcases hat with h | h
        · exact (hob.out _ h).1
        · rw [hsA] at h; omega
      have hown7 := own_kept hown k7 (fun x hx e => by
        obtain rfl : g2 = x := by simpa [Value.ownBlock] using hx
        omega)
      have hN' := hN.out
      have hR7 := ((hrows.out.below GPNode.ok hb5).kept GPNode.ok k6 (fun b hb e => by
        unfold fpO at hN'
        exact (List.nodup_append.1 hN').2.2 b (by rw [← e]; simp) b hb rfl)).kept GPNode.ok k7 (fun b hb e => by have := hL.out b (mem_fpO.2 (.inr hb)); omega)
      have S7 := (S5.out.kept (flatO_ok flatInt) k6 (fun b hb e => by have h1 := (hob.out b e.symm).2; have h2 := f5.out b hb; omega)).kept (flatO_ok flatInt) k7 (fun b hb e => by have h2 := f5.out b hb; omega)
      have hG7 : GrowO 77 4 GPNode.O w0.heap.size w7 (.slice (some ⟨g2, 0, none⟩) (k + 1) cap2) (pss ++ [bs]) (xs.take (k + 1)) := by
        rw [take_snoc' P1.out]
        exact GrowO.push hR7 hvl.symm hown7 rfl ⟨_, by rw [hm.out], hwf5.out, S7⟩
      have hN7 := fpO_push (n := k + 1) (cap := cap2) (s0 := wr.heap.size) (s1 := w5.heap.size + 1) hN' hltf.out nd5.out (fun b hb => by have := f5.out b hb; omega) (fun b hb => by have := S5.out.lt (flatO_ok flatInt) b hb; omega) (by omega) (by rw [← hsA]; exact hat)
      have hB7 : Below w.heap.size w w7 := by
        rw [hW7]
        exact (below_grown2 (wr := wr) (w := w) (base := w.heap.size) hgrow (hb5.trans (by go_grown)) hw (by omega) (own_lo hown0.out (by omega))).setCell (p := ⟨w.heap.size + 1 + 1, 0, none⟩) (by show w.heap.size ≤ w.heap.size + 1 + 1; omega) _
      replace hG7 := Lib.hid hG7; replace hN7 := Lib.hid hN7
      have hzz : w0.heap.size ≤ w7.heap.size := by omega
      clear hW7 hgrow hown hown7 hlt2 k6 k7 N6 N6W n6_0 n6f_0 hsN6 n5_0 n5f_0 d5_0 d5_1 d5_2 d5_3 hR7 S7 own5 hrows hown0
      go_wp2_with fail
      go_roundw
      case rel => exact ⟨k + 1, _, pss ++ [bs], by omega, by go_num, hB7, hzz, E7, E7W, N7, N7W, hG7, hN7, fun b hb => by
        rw [fpO_slice, List.flatten_append, List.flatten_singleton] at hb
        rcases List.mem_cons.1 hb with h | h
        · exact h ▸ hg2
        · rcases List.mem_append.1 h with h | h
          · exact hL.out b (mem_fpO.2 (.inr h))
          · have := f5.out b h; omega⟩
      case measure => simp [intOf]; omega
    · obtain rfl : k = n := by omega
      have hG' := hG.out
      rw [List.take_of_length_le (by rw [← hn.out]; exact Nat.le_refl _)] at hG' N2 hN hL
      rw [← hn.out] at N2 hN hL
      have hall : (xs.take k).length = k := by rw [List.length_take]; have := hn.out; omega
      rw [← hn.out] at hG'
      have e2f_0 := E2W.frz 0 (by omega); have e2_0 := E2.box1; have hsE2 := World.block_lt_of_cell? _ _ e2_0; dsimp only at hsE2; have n2f_0 := N2W.frz 0 (by omega); have n2_0 := N2.box1; have hsN2 := World.block_lt_of_cell? _ _ n2_0; dsimp only at hsN2
      have hfin : ∃ r' bs, Ending.returned (.agg #[.slice va k vc]) = .returned (.agg (r' : List Value).toArray) ∧ GPat.O bs (wr.setCell ⟨w.heap.size + 1, 0, none⟩ (.slice va k vc)) r' ⟨xs⟩ ∧ bs.Nodup ∧ (∀ b ∈ bs, w.heap.size ≤ b) ∧ Below w.heap.size w (wr.setCell ⟨w.heap.size + 1, 0, none⟩ (.slice va k vc)) :=
        ⟨[.slice va k vc], _, rfl, ⟨_, rfl, trivial, hG'.slO.kept GPNode.ok ((Kept.refl (· = w.heap.size + 1) wr).set (p := ⟨w.heap.size + 1, 0, none⟩) rfl _) (fun b hb e => by have := hL.out b hb; omega)⟩, hN.out, fun b hb => by have := hL.out b hb; omega, hw.setCell (p := ⟨w.heap.size + 1, 0, none⟩) (by show w.heap.size ≤ w.heap.size + 1; omega) _⟩
      replace hfin := Lib.hid hfin
      clear hG hG' hN hL
      go_wp2_with fail
      have p_0 := cell_setCell_eq wr (w.heap.size + 1) 0 (.slice va k vc) e2_0
      refine bodyPost_ret (v := .agg #[.slice va k vc]) (by simp [results, Tryz.results34, go_sem, p_0]) rfl ?_
      exact hfin.out

end Go.Proofs.YtfobkbjabenkkaaGreat
