/- Parts of the proof, merged: Dx6. -/
import Derived.Test.YtnmmfcnkpcigoaaGreatDe47
/- spec.DataExpr: its walk. -/
namespace Go.Proofs.YtnmmfcnkpcigoaaGreat
open Go.RowKit
set_option linter.unusedVariables false
set_option linter.unusedSimpArgs false
attribute [local go_sem] Ext.cell

def SePost (d : GData) (w : World) (e : Ending) (w' : World) : Prop :=
  ∃ v, e = .returned (.tuple #[.agg #[.slice none 0 0, v], .bool (dataExprP d)]) ∧ Sl GNode.R 6 0 w' v (deN d) ∧ Below w.heap.size w w'
theorem SePost.no {d : GData} {w w' : World} (h : dataExprP d = false) (hb : Below w.heap.size w w') : SePost d w (.returned (.tuple #[.agg #[.slice none 0 0, .slice none 0 0], .bool false])) w' :=
  ⟨_, by rw [h], by unfold deN; rw [h]; exact Sl.nil, hb⟩
theorem SePost.yes {d : GData} {w w' : World} {v : Value} (h : dataExprP d = true) (ho : Sl GNode.R 6 0 w' v (dNodes d)) (hb : Below w.heap.size w w') : SePost d w (.returned (.tuple #[.agg #[.slice none 0 0, v], .bool true])) w' :=
  ⟨v, by rw [h], by unfold deN; rw [h]; exact ho, hb⟩
theorem LStep.reads {A : Nat → Prop} {lo : Nat} {w w' : World} {v v' : Value} {pss pss' : List (List Nat)} {xs' : List GNode} (h : LStep A lo w v pss w' v' pss' xs') : GrowO 47 6 GNode.O lo w' v' pss' xs' := h.grow
theorem growO_sl {lo : Nat} {w : World} {v : Value} {pss : List (List Nat)} {xs : List GNode} (h : GrowO 47 6 GNode.O lo w v pss xs) : Sl GNode.R 6 0 w v xs := h.slO.sl GNode.ok (fun _ _ => Nat.zero_le _)

set_option maxRecDepth 100000 in
set_option maxHeartbeats 16000000 in
theorem specDataExpr_c (d : GData) (hd : d.nodes.length ≤ 1152921504606846976) (r : List Value) (lo : Nat) (w : World) (hr : GData.R lo w r d) :
    Calls Tryz.prog 5 #[.agg r.toArray] w (SePost d w) := by
  have cO := fun W (hW : Below w.heap.size w W) => specDataOk_c d hd r lo W (GData.good.below hr hW)
  have hds : dataOk d = true → DOkS d.nodes.length (treeOf d.nodes d.nodes.length 0) := fun h => data_doks hr h
  have cG : dataOk d = true → ∀ W (hW : Below w.heap.size w W), Calls Tryz.prog 16 #[.agg r.toArray, .int .i64 0] W (LxPost d.nodes.length W (dExprS (treeOf d.nodes d.nodes.length 0))) := fun h W hW => by
    obtain ⟨hU, h0, h6⟩ := dataOk_up h
    exact l21Expr_c d hU h6 d.nodes.length 0 h0 (by omega) (hds h) r lo W (GData.good.below hr hW)
  obtain ⟨u, rfl, -, hs⟩ := id hr
  obtain ⟨ua, uc, rfl⟩ := hs.form
  obtain ⟨q, hq⟩ : ∃ q, dataOk d = q := ⟨_, rfl⟩
  rw [hq] at cO cG hds
  have hno : q = false → dataExprP d = false := fun h => by unfold dataExprP; rw [hq, h]; rfl
  have hpost0 : dataExprP d = false → ∀ W, Below w.heap.size w W → SePost d w (.returned (.tuple #[.agg #[.slice none 0 0, .slice none 0 0], .bool false])) W := fun h W hW => SePost.no h hW
  have hpost1 : dataExprP d = true → ∀ W v, Sl GNode.R 6 0 W v (dNodes d) → Below w.heap.size w W → SePost d w (.returned (.tuple #[.agg #[.slice none 0 0, v], .bool true])) W := fun h W v ho hW => SePost.yes h ho hW
  show Calls Tryz.prog 5 #[.agg #[.slice ua d.nodes.length uc]] w _
  generalize SePost d w = P at *
  replace cO := Lib.hid cO; replace cG := Lib.hid cG; replace hds := Lib.hid hds; replace hq := Lib.hid hq
  replace hpost0 := Lib.hid hpost0; replace hpost1 := Lib.hid hpost1; replace hno := Lib.hid hno
  clear hs hr
  cases q
  · have hno1 := hpost0.out (hno.out rfl)
    clear cG hds hno hpost0 hpost1
    replace hno1 := Lib.hid hno1
    go_enter Tryz.func5, Tryz.ntmps5
    go_upto_region 1 with fail
    have D : RowAt (w.alloc (.cells #[.slice ua d.nodes.length uc] 34)) (w.heap.size) 0 [.slice ua d.nodes.length uc] := RowAt.box w #[.slice ua d.nodes.length uc] 34
    have D := D.below (show Below (w.alloc (.cells #[.slice ua d.nodes.length uc] 34)).heap.size (w.alloc (.cells #[.slice ua d.nodes.length uc] 34)) ((w.alloc (.cells #[.slice ua d.nodes.length uc] 34)).alloc (.cells #[.slice none 0 0, .slice none 0 0] 29)) by go_grown)
    have R : RowAt ((w.alloc (.cells #[.slice ua d.nodes.length uc] 34)).alloc (.cells #[.slice none 0 0, .slice none 0 0] 29)) (w.heap.size + 1) 0 [.slice none 0 0, .slice none 0 0] := by have h := RowAt.box (w.alloc (.cells #[.slice ua d.nodes.length uc] 34)) #[.slice none 0 0, .slice none 0 0] 29; simp only [World.size_alloc] at h; exact h
    have RW : Wr ((w.alloc (.cells #[.slice ua d.nodes.length uc] 34)).alloc (.cells #[.slice none 0 0, .slice none 0 0] 29)) (w.heap.size + 1) 0 2 := by have h := Wr.box (w.alloc (.cells #[.slice ua d.nodes.length uc] 34)) #[.slice none 0 0, .slice none 0 0] 29; simp only [World.size_alloc] at h; exact h
    have hw : Below w.heap.size w ((w.alloc (.cells #[.slice ua d.nodes.length uc] 34)).alloc (.cells #[.slice none 0 0, .slice none 0 0] 29)) := by go_grown
    generalize ((w.alloc (.cells #[.slice ua d.nodes.length uc] 34)).alloc (.cells #[.slice none 0 0, .slice none 0 0] 29)) = w0 at *
    have d_0 := D.box1; have hsD := World.block_lt_of_cell? _ _ d_0; dsimp only at hsD; have rf_0 := RW.frz 0 (by omega); have rf_1 := RW.frz 1 (by omega); obtain ⟨r_0, r_1⟩ := R.box2; have hsR := World.block_lt_of_cell? _ _ r_0; dsimp only at hsR
    go_wp2_with (go_at_call 14; (with_reducible refine (cO.out _ hw).mono ?_); rintro e w1 ⟨rfl, hb1⟩; have hw1 := hw.trans (hb1.mono hw.size); have R1 := R.below hb1; have R1W := RW.below hb1; have r1f_0 := R1W.frz 0 (by omega); have r1f_1 := R1W.frz 1 (by omega); obtain ⟨r1_0, r1_1⟩ := R1.box2; have hsR1 := World.block_lt_of_cell? _ _ r1_0; dsimp only at hsR1)
    refine bodyPost_ret (ret_prog_tmp (a := 2) (b := 3) Tryz.results5 rfl rfl (row2 R1 (.slice none 0 0) (.slice none 0 0))) rfl ?_
    exact hno1.out _ (by go_grown)
  · replace cG := cG.out rfl
    have hsm := dNodes_sm d hq.out
    have hsz : szE (dExprS (treeOf d.nodes d.nodes.length 0)) ≤ 16777216 := by
      have h2 := hsm.2
      unfold dNodes at h2
      rw [layE_len] at h2
      omega
    have cK := fun (v : Value) W (hS : Sl GNode.R 6 0 W v (dNodes d)) => specProgramOk_c ⟨[], dNodes d⟩ hsm.1 [.slice none 0 0, v] 0 W ⟨.slice none 0 0, v, rfl, trivial, Sl.nil, hS⟩
    have hpp : dataExprP d = progOk ⟨[], dNodes d⟩ := by unfold dataExprP; rw [hq.out]; rfl
    have hlx : layE 0 (dExprS (treeOf d.nodes d.nodes.length 0)) = dNodes d := rfl
    rw [← hpp] at cK
    replace hsm := Lib.hid hsm; replace cK := Lib.hid cK; replace hpp := Lib.hid hpp; replace cG := Lib.hid cG
    clear hds hno
    generalize dExprS (treeOf d.nodes d.nodes.length 0) = x at *
    replace hlx := Lib.hid hlx
    generalize d.nodes.length = n' at *
    go_enter Tryz.func5, Tryz.ntmps5
    go_upto_region 1 with fail
    have D : RowAt (w.alloc (.cells #[.slice ua n' uc] 34)) (w.heap.size) 0 [.slice ua n' uc] := RowAt.box w #[.slice ua n' uc] 34
    have D := D.below (show Below (w.alloc (.cells #[.slice ua n' uc] 34)).heap.size (w.alloc (.cells #[.slice ua n' uc] 34)) ((w.alloc (.cells #[.slice ua n' uc] 34)).alloc (.cells #[.slice none 0 0, .slice none 0 0] 29)) by go_grown)
    have R : RowAt ((w.alloc (.cells #[.slice ua n' uc] 34)).alloc (.cells #[.slice none 0 0, .slice none 0 0] 29)) (w.heap.size + 1) 0 [.slice none 0 0, .slice none 0 0] := by have h := RowAt.box (w.alloc (.cells #[.slice ua n' uc] 34)) #[.slice none 0 0, .slice none 0 0] 29; simp only [World.size_alloc] at h; exact h
    have RW : Wr ((w.alloc (.cells #[.slice ua n' uc] 34)).alloc (.cells #[.slice none 0 0, .slice none 0 0] 29)) (w.heap.size + 1) 0 2 := by have h := Wr.box (w.alloc (.cells #[.slice ua n' uc] 34)) #[.slice none 0 0, .slice none 0 0] 29; simp only [World.size_alloc] at h; exact h
    have hw : Below w.heap.size w ((w.alloc (.cells #[.slice ua n' uc] 34)).alloc (.cells #[.slice none 0 0, .slice none 0 0] 29)) := by go_grown
    generalize ((w.alloc (.cells #[.slice ua n' uc] 34)).alloc (.cells #[.slice none 0 0, .slice none 0 0] 29)) = w0 at *
    have d_0 := D.box1; have hsD := World.block_lt_of_cell? _ _ d_0; dsimp only at hsD; have rf_0 := RW.frz 0 (by omega); have rf_1 := RW.frz 1 (by omega); obtain ⟨r_0, r_1⟩ := R.box2; have hsR := World.block_lt_of_cell? _ _ r_0; dsimp only at hsR
    have hsz0 : w.heap.size + 1 < w0.heap.size := hsR
    go_upto_region 3 with (go_at_call 14; (with_reducible refine (cO.out _ hw).mono ?_); rintro e w1 ⟨rfl, hb1⟩; have hw1 := hw.trans (hb1.mono hw.size); have D1 := D.below hb1; have R1 := R.below hb1; have R1W := RW.below hb1)
    have hz1 := hb1.size
    clear d_0 hsD r_0 r_1 rf_0 rf_1 hsR
    have d1_0 := D1.box1; have hsD1 := World.block_lt_of_cell? _ _ d1_0; dsimp only at hsD1
    go_upto_region 4 with (first
      | (go_at_call 16; (with_reducible refine (cG.out _ hw1).mono ?_); rintro e w2 ⟨r', rfl, X2, hb2⟩; have hw2 := hw1.trans (hb2.mono hw1.size); have hz2 := hb2.size; have R2 := R1.below hb2; have R2W := R1W.below hb2; have X2' := X2.to (Same.below (Below.refl _ _)) (S' := fun b => w1.heap.size ≤ b ∧ b < w2.heap.size) (fun b h1 h2 => ⟨h1, h2⟩); have cL := l03Lay_c _ x (fun b => w1.heap.size ≤ b ∧ b < w2.heap.size) (.slice none 0 0) r' [] [] (w.heap.size + 2) w2 X2' GrowO.nil (fun b hb => by simp at hb) (by omega) (fun q h => h.2) (fun q _ h => by cases h) (by simpa using hsz))
      | (go_at_call 15; (with_reducible refine (cL).mono ?_); rintro e w3 ⟨v, pss, rfl, L3⟩; have G3 := growO_sl L3.grow; have O3 := L3.grow; rw [List.nil_append, show ([] : List GNode).length = 0 from rfl, hlx.out] at G3 O3; obtain ⟨va, vc, rfl⟩ := G3.form))
    have k3 : Kept (fun q => (Value.slice none 0 0).ownBlock = some q) w2 w3 := L3.kept
    have R3 := R2.kept k3 (fun h => by cases h)
    have R3W := R2W.kept k3 (fun h => by cases h)
    have hw3 : Below w.heap.size w w3 := hw2.trans (L3.below.mono (by omega))
    have hz3 := L3.below.size
    obtain ⟨w4, hW4⟩ : ∃ W, W = w3.alloc (.cells #[.slice none 0 0, .slice va (dNodes d).length vc] 29) := ⟨_, rfl⟩
    rw [← hW4]
    have hb4 : Below w3.heap.size w3 w4 := by rw [hW4]; go_grown
    have Q4 : RowAt w4 w3.heap.size 0 [.slice none 0 0, .slice va (dNodes d).length vc] := by rw [hW4]; exact RowAt.box w3 #[_, _] _
    have R4 := R3.below hb4
    have R4W := R3W.below hb4
    have hw4 := hw3.trans (hb4.mono hw3.size)
    have G4 := G3.below GNode.good hb4
    have O4 := O3.below GNode.ok hb4
    have hnew : ∀ b ∈ fpO (.slice va (dNodes d).length vc) pss, w.heap.size + 2 ≤ b := fun b hb => by
      rcases mem_fpO.1 hb with h | h
      · obtain ⟨rows, h1, _⟩ := O3
        exact (own_base h1 b h).1
      · rcases L3.new b h with h1 | h1 | h1
        · cases h1
        · omega
        · omega
    obtain ⟨bQ, hbQ⟩ : ∃ b, b = w3.heap.size := ⟨_, rfl⟩
    rw [← hbQ] at Q4 ⊢
    have hQR : bQ ≠ w.heap.size + 1 := by omega
    have cK4 := cK.out _ w4 G4
    have hp0 := hpost0.out
    have hp1 := hpost1.out
    replace O4 := Lib.hid O4; replace hnew := Lib.hid hnew
    clear O3 hW4 L3 k3 cL X2 X2' R1 R1W R2 R2W d1_0 hsD1 G3 hb4 R3 R3W hpost0 hpost1 hpp
    replace G4 := Lib.hid G4; replace cK4 := Lib.hid cK4; replace hbQ := Lib.hid hbQ; replace hp0 := Lib.hid hp0; replace hp1 := Lib.hid hp1
    generalize dataExprP d = res at *
    generalize (dNodes d).length = nl at *
    obtain ⟨q4_0, q4_1⟩ := Q4.box2; have hsQ4 := World.block_lt_of_cell? _ _ q4_0; dsimp only at hsQ4; have r4f_0 := R4W.frz 0 (by omega); have r4f_1 := R4W.frz 1 (by omega); obtain ⟨r4_0, r4_1⟩ := R4.box2; have hsR4 := World.block_lt_of_cell? _ _ r4_0; dsimp only at hsR4
    cases res
    · have hp := hp0.out rfl
      clear hp0 hp1
      replace hp := Lib.hid hp
      go_wp2_with (go_at_call 17; (with_reducible refine (cK4.out).mono ?_); rintro e w6 ⟨rfl, hb6⟩; have hw6 := hw4.trans (hb6.mono hw4.size); have R6 := R4.below hb6; have R6W := R4W.below hb6; have r6f_0 := R6W.frz 0 (by omega); have r6f_1 := R6W.frz 1 (by omega); obtain ⟨r6_0, r6_1⟩ := R6.box2; have hsR6 := World.block_lt_of_cell? _ _ r6_0; dsimp only at hsR6)
      refine bodyPost_ret (ret_prog_tmp (a := 2) (b := 3) Tryz.results5 rfl rfl (row2 R6 (.slice none 0 0) (.slice none 0 0))) rfl ?_
      exact hp.out _ (by go_grown)
    · have hp := hp1.out rfl
      clear hp0 hp1
      replace hp := Lib.hid hp
      go_wp2_with (go_at_call 17; (with_reducible refine (cK4.out).mono ?_); rintro e w6 ⟨rfl, hb6⟩; have hw6 := hw4.trans (hb6.mono hw4.size); have R6 := R4.below hb6; have R6W := R4W.below hb6; have Q6 := Q4.below hb6; have r6f_0 := R6W.frz 0 (by omega); have r6f_1 := R6W.frz 1 (by omega); obtain ⟨r6_0, r6_1⟩ := R6.box2; have hsR6 := World.block_lt_of_cell? _ _ r6_0; dsimp only at hsR6; obtain ⟨q6_0, q6_1⟩ := Q6.box2; have hsQ6 := World.block_lt_of_cell? _ _ q6_0; dsimp only at hsQ6)
      refine bodyPost_ret (ret_prog_tmp (a := 2) (b := 3) Tryz.results5 rfl rfl (row2 R6 (.slice none 0 0) (.slice va nl vc))) rfl ?_
      have O6 := O4.out.below GNode.ok hb6
      have K : Kept (· = w.heap.size + 1) w6 ((w6.setCell ⟨w.heap.size + 1, 0, none⟩ (.slice none 0 0)).setCell ⟨w.heap.size + 1, 1, none⟩ (.slice va nl vc)) := ((Kept.refl (fun b => b = w.heap.size + 1) w6).set (p := ⟨w.heap.size + 1, 0, none⟩) rfl _).set (p := ⟨w.heap.size + 1, 1, none⟩) rfl _
      have O7 := O6.kept GNode.ok K (fun b hb e => by have := hnew.out b hb; omega)
      exact hp.out _ _ (growO_sl O7) (by go_grown)
end Go.Proofs.YtnmmfcnkpcigoaaGreat
