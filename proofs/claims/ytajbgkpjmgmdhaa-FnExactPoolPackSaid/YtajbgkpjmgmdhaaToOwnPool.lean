/- What laws.toPool makes is the call's own. -/
import Derived.Test.YtajbgkpjmgmdhaaPoolMake
import Derived.Test.YtajbgkpjmgmdhaaToOwnInt
import Derived.Test.YtajbgkpjmgmdhaaToOwnCell
namespace Go.Proofs.Ytajbgkpjmgmdhaa
open Go.RowKit
set_option linter.unusedVariables false
set_option linter.unusedSimpArgs false
attribute [local go_sem] Ext.cell

theorem stored1 {W : World} {b : Nat} {x : Value} {u v : Value} (h0 : W.cell? ⟨b, 0, none⟩ = some u) (h1 : W.cell? ⟨b, 1, none⟩ = some v) :
    (W.setCell ⟨b, 0, none⟩ x).cell? ⟨b, 0, none⟩ = some x ∧ (W.setCell ⟨b, 0, none⟩ x).cell? ⟨b, 1, none⟩ = some v :=
  ⟨cell_setCell_eq W b 0 x h0, (cell_setCell_ne W b 0 1 x (by omega)).trans h1⟩

set_option maxRecDepth 100000 in
set_option maxHeartbeats 4000000 in
theorem toPool_o (x : GPool) (r : List Value) (lo : Nat) (hl : x.bulk ≤ 1048576) (w : World) (hx : GPool.R lo w r x) :
    Calls Try.prog 16 #[.agg r.toArray] w fun e w' => ∃ v0 v1, e = .returned (.agg #[v0, v1]) ∧ OwnPool w.heap.size w' v0 v1 x ∧ Below w.heap.size w w' := by
  obtain ⟨u0, u1, rfl, -, a0, a1⟩ := hx
  have z0 := bulkS_nonneg GCell.bulk_nonneg x.cells
  have z1 := length_nonneg x.free
  simp only [GPool.bulk] at hl
  have c1 := fun W (hW : Below w.heap.size w W) => toCellS_o x.cells u0 lo (by omega) W (a0.below GCell.good hW)
  have c2 := fun W (hW : Below w.heap.size w W) => toIntS_o x.free u1 lo (by omega) W (a1.below IntR.good hW)
  obtain ⟨pa, pc, rfl⟩ := a0.form
  obtain ⟨qa, qc, rfl⟩ := a1.form
  replace c1 := Lib.hid c1; replace c2 := Lib.hid c2
  clear a0 a1 hl z0 z1
  go_enter Try.func16, Try.ntmps16
  go_upto_region 2 with fail
  have B : RowAt (w.alloc (.cells #[.slice pa x.cells.length pc, .slice qa x.free.length qc] 41)) (w.heap.size) 0 [.slice pa x.cells.length pc, .slice qa x.free.length qc] := RowAt.box w #[.slice pa x.cells.length pc, .slice qa x.free.length qc] 41
  have B := B.below (show Below (w.alloc (.cells #[.slice pa x.cells.length pc, .slice qa x.free.length qc] 41)).heap.size (w.alloc (.cells #[.slice pa x.cells.length pc, .slice qa x.free.length qc] 41)) ((w.alloc (.cells #[.slice pa x.cells.length pc, .slice qa x.free.length qc] 41)).alloc (.cells #[.slice none 0 0, .slice none 0 0] 26)) by go_grown)
  have E : RowAt ((w.alloc (.cells #[.slice pa x.cells.length pc, .slice qa x.free.length qc] 41)).alloc (.cells #[.slice none 0 0, .slice none 0 0] 26)) (w.heap.size + 1) 0 [.slice none 0 0, .slice none 0 0] := by have h := RowAt.box (w.alloc (.cells #[.slice pa x.cells.length pc, .slice qa x.free.length qc] 41)) #[.slice none 0 0, .slice none 0 0] 26; simp only [World.size_alloc] at h; exact h
  have EW : Wr ((w.alloc (.cells #[.slice pa x.cells.length pc, .slice qa x.free.length qc] 41)).alloc (.cells #[.slice none 0 0, .slice none 0 0] 26)) (w.heap.size + 1) 0 2 := by have h := Wr.box (w.alloc (.cells #[.slice pa x.cells.length pc, .slice qa x.free.length qc] 41)) #[.slice none 0 0, .slice none 0 0] 26; simp only [World.size_alloc] at h; exact h
  have B := B.below (show Below ((w.alloc (.cells #[.slice pa x.cells.length pc, .slice qa x.free.length qc] 41)).alloc (.cells #[.slice none 0 0, .slice none 0 0] 26)).heap.size ((w.alloc (.cells #[.slice pa x.cells.length pc, .slice qa x.free.length qc] 41)).alloc (.cells #[.slice none 0 0, .slice none 0 0] 26)) (((w.alloc (.cells #[.slice pa x.cells.length pc, .slice qa x.free.length qc] 41)).alloc (.cells #[.slice none 0 0, .slice none 0 0] 26)).alloc (.cells #[.slice none 0 0, .slice none 0 0] 26)) by go_grown)
  have E := E.below (show Below ((w.alloc (.cells #[.slice pa x.cells.length pc, .slice qa x.free.length qc] 41)).alloc (.cells #[.slice none 0 0, .slice none 0 0] 26)).heap.size ((w.alloc (.cells #[.slice pa x.cells.length pc, .slice qa x.free.length qc] 41)).alloc (.cells #[.slice none 0 0, .slice none 0 0] 26)) (((w.alloc (.cells #[.slice pa x.cells.length pc, .slice qa x.free.length qc] 41)).alloc (.cells #[.slice none 0 0, .slice none 0 0] 26)).alloc (.cells #[.slice none 0 0, .slice none 0 0] 26)) by go_grown)
  have EW := EW.below (show Below ((w.alloc (.cells #[.slice pa x.cells.length pc, .slice qa x.free.length qc] 41)).alloc (.cells #[.slice none 0 0, .slice none 0 0] 26)).heap.size ((w.alloc (.cells #[.slice pa x.cells.length pc, .slice qa x.free.length qc] 41)).alloc (.cells #[.slice none 0 0, .slice none 0 0] 26)) (((w.alloc (.cells #[.slice pa x.cells.length pc, .slice qa x.free.length qc] 41)).alloc (.cells #[.slice none 0 0, .slice none 0 0] 26)).alloc (.cells #[.slice none 0 0, .slice none 0 0] 26)) by go_grown)
  have D : RowAt (((w.alloc (.cells #[.slice pa x.cells.length pc, .slice qa x.free.length qc] 41)).alloc (.cells #[.slice none 0 0, .slice none 0 0] 26)).alloc (.cells #[.slice none 0 0, .slice none 0 0] 26)) (w.heap.size + 1 + 1) 0 [.slice none 0 0, .slice none 0 0] := by have h := RowAt.box ((w.alloc (.cells #[.slice pa x.cells.length pc, .slice qa x.free.length qc] 41)).alloc (.cells #[.slice none 0 0, .slice none 0 0] 26)) #[.slice none 0 0, .slice none 0 0] 26; simp only [World.size_alloc] at h; exact h
  have DW : Wr (((w.alloc (.cells #[.slice pa x.cells.length pc, .slice qa x.free.length qc] 41)).alloc (.cells #[.slice none 0 0, .slice none 0 0] 26)).alloc (.cells #[.slice none 0 0, .slice none 0 0] 26)) (w.heap.size + 1 + 1) 0 2 := by have h := Wr.box ((w.alloc (.cells #[.slice pa x.cells.length pc, .slice qa x.free.length qc] 41)).alloc (.cells #[.slice none 0 0, .slice none 0 0] 26)) #[.slice none 0 0, .slice none 0 0] 26; simp only [World.size_alloc] at h; exact h
  have hw : Below w.heap.size w (((w.alloc (.cells #[.slice pa x.cells.length pc, .slice qa x.free.length qc] 41)).alloc (.cells #[.slice none 0 0, .slice none 0 0] 26)).alloc (.cells #[.slice none 0 0, .slice none 0 0] 26)) := by go_grown
  generalize (((w.alloc (.cells #[.slice pa x.cells.length pc, .slice qa x.free.length qc] 41)).alloc (.cells #[.slice none 0 0, .slice none 0 0] 26)).alloc (.cells #[.slice none 0 0, .slice none 0 0] 26)) = w0 at *
  obtain ⟨b_0, b_1⟩ := B.box2; have hsB := World.block_lt_of_cell? _ _ b_0; dsimp only at hsB; have ef_0 := EW.frz 0 (by omega); have ef_1 := EW.frz 1 (by omega); obtain ⟨e_0, e_1⟩ := E.box2; have hsE := World.block_lt_of_cell? _ _ e_0; dsimp only at hsE; have df_0 := DW.frz 0 (by omega); have df_1 := DW.frz 1 (by omega); obtain ⟨d_0, d_1⟩ := D.box2; have hsD := World.block_lt_of_cell? _ _ d_0; dsimp only at hsD
  go_upto_region 3 with (go_at_call 49; (with_reducible refine (c1.out _ hw).mono ?_); rintro en w1 ⟨v0, rfl, OC, hb⟩; obtain ⟨ca, cc, rfl⟩ := OC.form; have hw1 := hw.trans (hb.mono hw.size); have hz1 := hb.size; have B1 := B.below hb; have E1 := E.below hb; have EW1 := EW.below hb; have D1 := D.below hb; have DW1 := DW.below hb; obtain ⟨d1_0, d1_1⟩ := D1.box2; have d1f_0 := DW1.frz 0 (by omega))
  obtain ⟨w2, hW2⟩ : ∃ W, W = w1.setCell ⟨w.heap.size + 1 + 1, 0, none⟩ (.slice ca x.cells.length cc) := ⟨_, rfl⟩
  rw [← hW2]
  have K2 : Kept (· = w.heap.size + 1 + 1) w1 w2 := by rw [hW2]; exact Kept.set (S := (· = w.heap.size + 1 + 1)) (p := ⟨w.heap.size + 1 + 1, 0, none⟩) (Kept.refl _ _) rfl _
  have hw2 : Below w.heap.size w w2 := by rw [hW2]; exact hw1.setCell (p := ⟨w.heap.size + 1 + 1, 0, none⟩) (by dsimp only; omega) _
  have hz2 : w1.heap.size = w2.heap.size := by rw [hW2]; simp [World.setCell]
  obtain ⟨d2_0, d2_1⟩ := stored1 (x := .slice ca x.cells.length cc) d1_0 d1_1
  rw [← hW2] at d2_0 d2_1
  have DW2 : Wr w2 (w.heap.size + 1 + 1) 0 2 := by rw [hW2]; exact DW1.set 0 _
  have hob := OC.base
  replace OC := OC.kept K2 (fun g hg e => by have := (hob g hg).1; omega)
  have B2 := B1.kept K2 (by omega)
  have E2 := E1.kept K2 (by omega)
  have EW2 := EW1.kept K2 (by omega)
  have D2 := RowAt.of2 d2_0 d2_1
  obtain ⟨b2_0, b2_1⟩ := B2.box2
  clear hW2 K2 B E EW D DW b_0 b_1 e_0 e_1 ef_0 ef_1 d_0 d_1 df_0 df_1 B1 E1 EW1 D1 DW1 d1_0 d1_1 d1f_0 hb
  replace hob := Lib.hid hob
  go_upto_region 4 with (go_at_call 50; (with_reducible refine (c2.out _ hw2).mono ?_); rintro en w3 ⟨v1, rfl, OI, hb⟩; obtain ⟨ia, ic, rfl⟩ := OI.form; have hw3 := hw2.trans (hb.mono hw2.size); have hz3 := hb.size; have OC3 := OC.below hb; have E3 := E2.below hb; have EW3 := EW2.below hb; have D3 := D2.below hb; have DW3 := DW2.below hb; obtain ⟨d3_0, d3_1⟩ := D3.box2; have d3f_1 := DW3.frz 1 (by omega))
  obtain ⟨w4, hW4⟩ : ∃ W, W = w3.setCell ⟨w.heap.size + 1 + 1, 1, none⟩ (.slice ia x.free.length ic) := ⟨_, rfl⟩
  rw [← hW4]
  have K4 : Kept (· = w.heap.size + 1 + 1) w3 w4 := by rw [hW4]; exact Kept.set (S := (· = w.heap.size + 1 + 1)) (p := ⟨w.heap.size + 1 + 1, 1, none⟩) (Kept.refl _ _) rfl _
  have hw4 : Below w.heap.size w w4 := by rw [hW4]; exact hw3.setCell (p := ⟨w.heap.size + 1 + 1, 1, none⟩) (by dsimp only; omega) _
  obtain ⟨d4_0, d4_1⟩ := stored2' (y := .slice ia x.free.length ic) d3_0 d3_1
  rw [← hW4] at d4_0 d4_1
  have hoi := OI.base
  have OP : OwnPool w0.heap.size w4 (.slice ca x.cells.length cc) (.slice ia x.free.length ic) x := by
    refine ⟨OC3.kept K4 (fun g hg e => by have := (hob.out g hg).1; omega), (OI.mono (by omega)).kept K4 (fun g hg e => by have := (hoi g hg).1; omega), fun g h1 h2 => ?_⟩
    have := (hob.out g h1).2; have := (hoi g h2).1; omega
  obtain ⟨e4_0, e4_1⟩ := (E3.kept K4 (by omega)).box2
  have e4f_0 := (EW3.kept K4 (by omega)).frz 0 (by omega); have e4f_1 := (EW3.kept K4 (by omega)).frz 1 (by omega)
  clear hW4 K4 B2 E2 EW2 D2 DW2 b2_0 b2_1 d2_0 d2_1 D3 DW3 E3 EW3 d3_0 d3_1 d3f_1 hb OC OC3 OI hoi
  replace OP := Lib.hid OP
  go_wp2_with fail
  have q := stored2 (x := .slice ca x.cells.length cc) (y := .slice ia x.free.length ic) e4_0 e4_1
  refine bodyPost_ret (v := .agg #[.slice ca x.cells.length cc, .slice ia x.free.length ic]) (by simp [results, Try.results16, go_sem, q.1, q.2]) rfl ?_
  refine ⟨_, _, rfl, ?_, below_set2 hw4 (by omega) _ _⟩
  have K5 : Kept (· = w.heap.size + 1) w4 ((w4.setCell ⟨w.heap.size + 1, 0, none⟩ (.slice ca x.cells.length cc)).setCell ⟨w.heap.size + 1, 1, none⟩ (.slice ia x.free.length ic)) := Kept.set (S := (· = w.heap.size + 1)) (p := ⟨w.heap.size + 1, 1, none⟩) (Kept.set (S := (· = w.heap.size + 1)) (p := ⟨w.heap.size + 1, 0, none⟩) (Kept.refl _ _) rfl _) rfl _
  have hsz : w.heap.size + 1 < w0.heap.size := by omega
  exact (OP.out.mono (by omega)).kept K5 (fun g hg e => by have := (OP.out.cells.base g hg).1; omega) (fun g hg e => by have := (OP.out.free.base g hg).1; omega)

end Go.Proofs.Ytajbgkpjmgmdhaa
