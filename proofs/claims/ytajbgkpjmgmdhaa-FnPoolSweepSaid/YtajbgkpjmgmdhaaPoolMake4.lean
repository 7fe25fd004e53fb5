/- PoolMake: the reference's walk; both, joined. -/
import Derived.Test.YtajbgkpjmgmdhaaPoolMake3
namespace Go.Proofs.Ytajbgkpjmgmdhaa
open Go.RowKit
set_option linter.unusedVariables false
set_option linter.unusedSimpArgs false
attribute [local go_sem] Ext.cell

set_option maxRecDepth 100000 in
set_option maxHeartbeats 8000000 in
theorem spec_PoolMake_no (p : GPool) (c : GCell) (hc : c.wf) (r : List Value) (lo : Nat) (hbulk : p.bulk ≤ 1048576) (w : World) (hp : GPool.R lo w r p) (hno : ¬ (poolOk p = true ∧ poolFits p c = true)) :
    Calls Try.prog 10 #[.agg r.toArray, .agg #[.int .i64 c.kind, .int .i64 c.n, .string c.s, .int .i64 c.a.kind, .int .i64 c.a.n, .string c.a.s, .int .i64 c.b.kind, .int .i64 c.b.n, .string c.b.s]] w (PmPost w p c) := by
  have Hp := hp
  obtain ⟨u0, u1, rfl, -, a0, a1⟩ := hp
  obtain ⟨pa, pc, rfl⟩ := a0.form
  obtain ⟨qa, qc, rfl⟩ := a1.form
  have n0 := length_le_bulkS (f := GCell.bulk) GCell.bulk_nonneg p.cells
  have n1 := length_nonneg p.free
  have hbulk' := hbulk
  simp only [GPool.bulk] at hbulk'
  have hlen : p.cells.length ≤ 1048576 := by omega
  have hlen2 : p.free.length ≤ 1048576 := by have := bulkS_nonneg GCell.bulk_nonneg p.cells; omega
  have c1 := fun W (hW : Below w.heap.size w W) => spec_PoolOk_c p _ lo hbulk W (GPool.good.below Hp hW)
  have hend := fun (w' : World) => pm_no (w := w) (w' := w') hno
  clear n0 n1 hbulk' a0 a1
  replace hend := Lib.hid hend
  cases hok : poolOk p
  · rw [hok] at c1
    replace c1 := Lib.hid c1
    clear hno hok Hp
    go_enter Try.func10, Try.ntmps10
    go_upto_region 1 with fail
    have B : RowAt (w.alloc (.cells #[.slice pa p.cells.length pc, .slice qa p.free.length qc] 26)) (w.heap.size) 0 [.slice pa p.cells.length pc, .slice qa p.free.length qc] := RowAt.box w #[.slice pa p.cells.length pc, .slice qa p.free.length qc] 26
    have B := B.below (show Below (w.alloc (.cells #[.slice pa p.cells.length pc, .slice qa p.free.length qc] 26)).heap.size (w.alloc (.cells #[.slice pa p.cells.length pc, .slice qa p.free.length qc] 26)) ((w.alloc (.cells #[.slice pa p.cells.length pc, .slice qa p.free.length qc] 26)).alloc (.cells #[.int .i64 c.kind, .int .i64 c.n, .string c.s, .int .i64 c.a.kind, .int .i64 c.a.n, .string c.a.s, .int .i64 c.b.kind, .int .i64 c.b.n, .string c.b.s] 30)) by go_grown)
    have D : RowAt ((w.alloc (.cells #[.slice pa p.cells.length pc, .slice qa p.free.length qc] 26)).alloc (.cells #[.int .i64 c.kind, .int .i64 c.n, .string c.s, .int .i64 c.a.kind, .int .i64 c.a.n, .string c.a.s, .int .i64 c.b.kind, .int .i64 c.b.n, .string c.b.s] 30)) (w.heap.size + 1) 0 [.int .i64 c.kind, .int .i64 c.n, .string c.s, .int .i64 c.a.kind, .int .i64 c.a.n, .string c.a.s, .int .i64 c.b.kind, .int .i64 c.b.n, .string c.b.s] := by have h := RowAt.box (w.alloc (.cells #[.slice pa p.cells.length pc, .slice qa p.free.length qc] 26)) #[.int .i64 c.kind, .int .i64 c.n, .string c.s, .int .i64 c.a.kind, .int .i64 c.a.n, .string c.a.s, .int .i64 c.b.kind, .int .i64 c.b.n, .string c.b.s] 30; simp only [World.size_alloc] at h; exact h
    have B := B.below (show Below ((w.alloc (.cells #[.slice pa p.cells.length pc, .slice qa p.free.length qc] 26)).alloc (.cells #[.int .i64 c.kind, .int .i64 c.n, .string c.s, .int .i64 c.a.kind, .int .i64 c.a.n, .string c.a.s, .int .i64 c.b.kind, .int .i64 c.b.n, .string c.b.s] 30)).heap.size ((w.alloc (.cells #[.slice pa p.cells.length pc, .slice qa p.free.length qc] 26)).alloc (.cells #[.int .i64 c.kind, .int .i64 c.n, .string c.s, .int .i64 c.a.kind, .int .i64 c.a.n, .string c.a.s, .int .i64 c.b.kind, .int .i64 c.b.n, .string c.b.s] 30)) (((w.alloc (.cells #[.slice pa p.cells.length pc, .slice qa p.free.length qc] 26)).alloc (.cells #[.int .i64 c.kind, .int .i64 c.n, .string c.s, .int .i64 c.a.kind, .int .i64 c.a.n, .string c.a.s, .int .i64 c.b.kind, .int .i64 c.b.n, .string c.b.s] 30)).alloc (.cells #[.slice none 0 0, .slice none 0 0] 26)) by go_grown)
    have D := D.below (show Below ((w.alloc (.cells #[.slice pa p.cells.length pc, .slice qa p.free.length qc] 26)).alloc (.cells #[.int .i64 c.kind, .int .i64 c.n, .string c.s, .int .i64 c.a.kind, .int .i64 c.a.n, .string c.a.s, .int .i64 c.b.kind, .int .i64 c.b.n, .string c.b.s] 30)).heap.size ((w.alloc (.cells #[.slice pa p.cells.length pc, .slice qa p.free.length qc] 26)).alloc (.cells #[.int .i64 c.kind, .int .i64 c.n, .string c.s, .int .i64 c.a.kind, .int .i64 c.a.n, .string c.a.s, .int .i64 c.b.kind, .int .i64 c.b.n, .string c.b.s] 30)) (((w.alloc (.cells #[.slice pa p.cells.length pc, .slice qa p.free.length qc] 26)).alloc (.cells #[.int .i64 c.kind, .int .i64 c.n, .string c.s, .int .i64 c.a.kind, .int .i64 c.a.n, .string c.a.s, .int .i64 c.b.kind, .int .i64 c.b.n, .string c.b.s] 30)).alloc (.cells #[.slice none 0 0, .slice none 0 0] 26)) by go_grown)
    have E : RowAt (((w.alloc (.cells #[.slice pa p.cells.length pc, .slice qa p.free.length qc] 26)).alloc (.cells #[.int .i64 c.kind, .int .i64 c.n, .string c.s, .int .i64 c.a.kind, .int .i64 c.a.n, .string c.a.s, .int .i64 c.b.kind, .int .i64 c.b.n, .string c.b.s] 30)).alloc (.cells #[.slice none 0 0, .slice none 0 0] 26)) (w.heap.size + 1 + 1) 0 [.slice none 0 0, .slice none 0 0] := by have h := RowAt.box ((w.alloc (.cells #[.slice pa p.cells.length pc, .slice qa p.free.length qc] 26)).alloc (.cells #[.int .i64 c.kind, .int .i64 c.n, .string c.s, .int .i64 c.a.kind, .int .i64 c.a.n, .string c.a.s, .int .i64 c.b.kind, .int .i64 c.b.n, .string c.b.s] 30)) #[.slice none 0 0, .slice none 0 0] 26; simp only [World.size_alloc] at h; exact h
    have EW : Wr (((w.alloc (.cells #[.slice pa p.cells.length pc, .slice qa p.free.length qc] 26)).alloc (.cells #[.int .i64 c.kind, .int .i64 c.n, .string c.s, .int .i64 c.a.kind, .int .i64 c.a.n, .string c.a.s, .int .i64 c.b.kind, .int .i64 c.b.n, .string c.b.s] 30)).alloc (.cells #[.slice none 0 0, .slice none 0 0] 26)) (w.heap.size + 1 + 1) 0 2 := by have h := Wr.box ((w.alloc (.cells #[.slice pa p.cells.length pc, .slice qa p.free.length qc] 26)).alloc (.cells #[.int .i64 c.kind, .int .i64 c.n, .string c.s, .int .i64 c.a.kind, .int .i64 c.a.n, .string c.a.s, .int .i64 c.b.kind, .int .i64 c.b.n, .string c.b.s] 30)) #[.slice none 0 0, .slice none 0 0] 26; simp only [World.size_alloc] at h; exact h
    have hw : Below w.heap.size w (((w.alloc (.cells #[.slice pa p.cells.length pc, .slice qa p.free.length qc] 26)).alloc (.cells #[.int .i64 c.kind, .int .i64 c.n, .string c.s, .int .i64 c.a.kind, .int .i64 c.a.n, .string c.a.s, .int .i64 c.b.kind, .int .i64 c.b.n, .string c.b.s] 30)).alloc (.cells #[.slice none 0 0, .slice none 0 0] 26)) := by go_grown
    generalize (((w.alloc (.cells #[.slice pa p.cells.length pc, .slice qa p.free.length qc] 26)).alloc (.cells #[.int .i64 c.kind, .int .i64 c.n, .string c.s, .int .i64 c.a.kind, .int .i64 c.a.n, .string c.a.s, .int .i64 c.b.kind, .int .i64 c.b.n, .string c.b.s] 30)).alloc (.cells #[.slice none 0 0, .slice none 0 0] 26)) = w0 at *
    obtain ⟨b_0, b_1⟩ := B.box2; have hsB := World.block_lt_of_cell? _ _ b_0; dsimp only at hsB; obtain ⟨d_0, d_1, d_2, d_3, d_4, d_5, d_6, d_7, d_8⟩ := D.box9; have hsD := World.block_lt_of_cell? _ _ d_0; dsimp only at hsD; have ef_0 := EW.frz 0 (by omega); have ef_1 := EW.frz 1 (by omega); obtain ⟨e_0, e_1⟩ := E.box2; have hsE := World.block_lt_of_cell? _ _ e_0; dsimp only at hsE
    go_wp2_with (go_at_call 42; (with_reducible refine (c1.out _ hw).mono ?_); rintro en w5 ⟨rfl, hbk⟩; have hw5 : Below w.heap.size w w5 := hw.trans (hbk.mono hw.size); have B5 := B.below hbk; have D5 := D.below hbk; have E5 := E.below hbk; have EW5 := EW.below hbk; obtain ⟨e5_0, e5_1⟩ := E5.box2; have hsE5 := World.block_lt_of_cell? _ _ e5_0; dsimp only at hsE5; have e5f_0 := EW5.frz 0 (by omega); have e5f_1 := EW5.frz 1 (by omega))
    have q := stored2 (x := .slice none 0 0) (y := .slice none 0 0) e5_0 e5_1
    refine bodyPost_ret (v := .tuple #[.agg #[.slice none 0 0, .slice none 0 0], .int .i64 0, .int .i64 1]) (by simp [results, Try.results10, go_sem, q.1, q.2]) rfl ?_
    exact hend.out _ (below_set2 hw5 (by omega) _ _)
  · have hfit : poolFits p c = false := by
      cases hf : poolFits p c
      · rfl
      · exact absurd ⟨hok, hf⟩ hno
    obtain ⟨hp1, hp2, hp3⟩ := poolOk_parts hok
    rw [hok] at c1
    replace c1 := Lib.hid c1
    have c3 := fun W (hW : Below w.heap.size w W) => l20Cell_c p _ lo c hc hlen W (GPool.good.below Hp hW)
    rw [hfit] at c3
    replace c3 := Lib.hid c3
    clear hno hok hfit hp3
    go_enter Try.func10, Try.ntmps10
    go_upto_region 1 with fail
    have B : RowAt (w.alloc (.cells #[.slice pa p.cells.length pc, .slice qa p.free.length qc] 26)) (w.heap.size) 0 [.slice pa p.cells.length pc, .slice qa p.free.length qc] := RowAt.box w #[.slice pa p.cells.length pc, .slice qa p.free.length qc] 26
    have B := B.below (show Below (w.alloc (.cells #[.slice pa p.cells.length pc, .slice qa p.free.length qc] 26)).heap.size (w.alloc (.cells #[.slice pa p.cells.length pc, .slice qa p.free.length qc] 26)) ((w.alloc (.cells #[.slice pa p.cells.length pc, .slice qa p.free.length qc] 26)).alloc (.cells #[.int .i64 c.kind, .int .i64 c.n, .string c.s, .int .i64 c.a.kind, .int .i64 c.a.n, .string c.a.s, .int .i64 c.b.kind, .int .i64 c.b.n, .string c.b.s] 30)) by go_grown)
    have D : RowAt ((w.alloc (.cells #[.slice pa p.cells.length pc, .slice qa p.free.length qc] 26)).alloc (.cells #[.int .i64 c.kind, .int .i64 c.n, .string c.s, .int .i64 c.a.kind, .int .i64 c.a.n, .string c.a.s, .int .i64 c.b.kind, .int .i64 c.b.n, .string c.b.s] 30)) (w.heap.size + 1) 0 [.int .i64 c.kind, .int .i64 c.n, .string c.s, .int .i64 c.a.kind, .int .i64 c.a.n, .string c.a.s, .int .i64 c.b.kind, .int .i64 c.b.n, .string c.b.s] := by have h := RowAt.box (w.alloc (.cells #[.slice pa p.cells.length pc, .slice qa p.free.length qc] 26)) #[.int .i64 c.kind, .int .i64 c.n, .string c.s, .int .i64 c.a.kind, .int .i64 c.a.n, .string c.a.s, .int .i64 c.b.kind, .int .i64 c.b.n, .string c.b.s] 30; simp only [World.size_alloc] at h; exact h
    have B := B.below (show Below ((w.alloc (.cells #[.slice pa p.cells.length pc, .slice qa p.free.length qc] 26)).alloc (.cells #[.int .i64 c.kind, .int .i64 c.n, .string c.s, .int .i64 c.a.kind, .int .i64 c.a.n, .string c.a.s, .int .i64 c.b.kind, .int .i64 c.b.n, .string c.b.s] 30)).heap.size ((w.alloc (.cells #[.slice pa p.cells.length pc, .slice qa p.free.length qc] 26)).alloc (.cells #[.int .i64 c.kind, .int .i64 c.n, .string c.s, .int .i64 c.a.kind, .int .i64 c.a.n, .string c.a.s, .int .i64 c.b.kind, .int .i64 c.b.n, .string c.b.s] 30)) (((w.alloc (.cells #[.slice pa p.cells.length pc, .slice qa p.free.length qc] 26)).alloc (.cells #[.int .i64 c.kind, .int .i64 c.n, .string c.s, .int .i64 c.a.kind, .int .i64 c.a.n, .string c.a.s, .int .i64 c.b.kind, .int .i64 c.b.n, .string c.b.s] 30)).alloc (.cells #[.slice none 0 0, .slice none 0 0] 26)) by go_grown)
    have D := D.below (show Below ((w.alloc (.cells #[.slice pa p.cells.length pc, .slice qa p.free.length qc] 26)).alloc (.cells #[.int .i64 c.kind, .int .i64 c.n, .string c.s, .int .i64 c.a.kind, .int .i64 c.a.n, .string c.a.s, .int .i64 c.b.kind, .int .i64 c.b.n, .string c.b.s] 30)).heap.size ((w.alloc (.cells #[.slice pa p.cells.length pc, .slice qa p.free.length qc] 26)).alloc (.cells #[.int .i64 c.kind, .int .i64 c.n, .string c.s, .int .i64 c.a.kind, .int .i64 c.a.n, .string c.a.s, .int .i64 c.b.kind, .int .i64 c.b.n, .string c.b.s] 30)) (((w.alloc (.cells #[.slice pa p.cells.length pc, .slice qa p.free.length qc] 26)).alloc (.cells #[.int .i64 c.kind, .int .i64 c.n, .string c.s, .int .i64 c.a.kind, .int .i64 c.a.n, .string c.a.s, .int .i64 c.b.kind, .int .i64 c.b.n, .string c.b.s] 30)).alloc (.cells #[.slice none 0 0, .slice none 0 0] 26)) by go_grown)
    have E : RowAt (((w.alloc (.cells #[.slice pa p.cells.length pc, .slice qa p.free.length qc] 26)).alloc (.cells #[.int .i64 c.kind, .int .i64 c.n, .string c.s, .int .i64 c.a.kind, .int .i64 c.a.n, .string c.a.s, .int .i64 c.b.kind, .int .i64 c.b.n, .string c.b.s] 30)).alloc (.cells #[.slice none 0 0, .slice none 0 0] 26)) (w.heap.size + 1 + 1) 0 [.slice none 0 0, .slice none 0 0] := by have h := RowAt.box ((w.alloc (.cells #[.slice pa p.cells.length pc, .slice qa p.free.length qc] 26)).alloc (.cells #[.int .i64 c.kind, .int .i64 c.n, .string c.s, .int .i64 c.a.kind, .int .i64 c.a.n, .string c.a.s, .int .i64 c.b.kind, .int .i64 c.b.n, .string c.b.s] 30)) #[.slice none 0 0, .slice none 0 0] 26; simp only [World.size_alloc] at h; exact h
    have EW : Wr (((w.alloc (.cells #[.slice pa p.cells.length pc, .slice qa p.free.length qc] 26)).alloc (.cells #[.int .i64 c.kind, .int .i64 c.n, .string c.s, .int .i64 c.a.kind, .int .i64 c.a.n, .string c.a.s, .int .i64 c.b.kind, .int .i64 c.b.n, .string c.b.s] 30)).alloc (.cells #[.slice none 0 0, .slice none 0 0] 26)) (w.heap.size + 1 + 1) 0 2 := by have h := Wr.box ((w.alloc (.cells #[.slice pa p.cells.length pc, .slice qa p.free.length qc] 26)).alloc (.cells #[.int .i64 c.kind, .int .i64 c.n, .string c.s, .int .i64 c.a.kind, .int .i64 c.a.n, .string c.a.s, .int .i64 c.b.kind, .int .i64 c.b.n, .string c.b.s] 30)) #[.slice none 0 0, .slice none 0 0] 26; simp only [World.size_alloc] at h; exact h
    have hw : Below w.heap.size w (((w.alloc (.cells #[.slice pa p.cells.length pc, .slice qa p.free.length qc] 26)).alloc (.cells #[.int .i64 c.kind, .int .i64 c.n, .string c.s, .int .i64 c.a.kind, .int .i64 c.a.n, .string c.a.s, .int .i64 c.b.kind, .int .i64 c.b.n, .string c.b.s] 30)).alloc (.cells #[.slice none 0 0, .slice none 0 0] 26)) := by go_grown
    generalize (((w.alloc (.cells #[.slice pa p.cells.length pc, .slice qa p.free.length qc] 26)).alloc (.cells #[.int .i64 c.kind, .int .i64 c.n, .string c.s, .int .i64 c.a.kind, .int .i64 c.a.n, .string c.a.s, .int .i64 c.b.kind, .int .i64 c.b.n, .string c.b.s] 30)).alloc (.cells #[.slice none 0 0, .slice none 0 0] 26)) = w0 at *
    obtain ⟨b_0, b_1⟩ := B.box2; have hsB := World.block_lt_of_cell? _ _ b_0; dsimp only at hsB; obtain ⟨d_0, d_1, d_2, d_3, d_4, d_5, d_6, d_7, d_8⟩ := D.box9; have hsD := World.block_lt_of_cell? _ _ d_0; dsimp only at hsD; have ef_0 := EW.frz 0 (by omega); have ef_1 := EW.frz 1 (by omega); obtain ⟨e_0, e_1⟩ := E.box2; have hsE := World.block_lt_of_cell? _ _ e_0; dsimp only at hsE
    go_wp2_with (first
        | (go_at_call 42; (with_reducible refine (c1.out _ hw).mono ?_); rintro en w5 ⟨rfl, hbk⟩; have hw5 : Below w.heap.size w w5 := hw.trans (hbk.mono hw.size); have B5 := B.below hbk; have D5 := D.below hbk; have E5 := E.below hbk; have EW5 := EW.below hbk; obtain ⟨b5_0, b5_1⟩ := B5.box2; have hsB5 := World.block_lt_of_cell? _ _ b5_0; dsimp only at hsB5; obtain ⟨d5_0, d5_1, d5_2, d5_3, d5_4, d5_5, d5_6, d5_7, d5_8⟩ := D5.box9; have hsD5 := World.block_lt_of_cell? _ _ d5_0; dsimp only at hsD5)
        | (go_at_call 43; (with_reducible refine (c3.out _ hw5).mono ?_); rintro en w7 ⟨rfl, hbk⟩; have hw7 : Below w.heap.size w w7 := hw5.trans (hbk.mono hw5.size); have B7 := B5.below hbk; have D7 := D5.below hbk; have E7 := E5.below hbk; have EW7 := EW5.below hbk; obtain ⟨e7_0, e7_1⟩ := E7.box2; have hsE7 := World.block_lt_of_cell? _ _ e7_0; dsimp only at hsE7; have e7f_0 := EW7.frz 0 (by omega); have e7f_1 := EW7.frz 1 (by omega)))
    have q := stored2 (x := .slice none 0 0) (y := .slice none 0 0) e7_0 e7_1
    refine bodyPost_ret (v := .tuple #[.agg #[.slice none 0 0, .slice none 0 0], .int .i64 0, .int .i64 1]) (by simp [results, Try.results10, go_sem, q.1, q.2]) rfl ?_
    exact hend.out _ (below_set2 hw7 (by omega) _ _)

set_option maxRecDepth 100000 in
set_option maxHeartbeats 8000000 in
theorem spec_PoolMake_yes (p : GPool) (c : GCell) (hc : c.wf) (r : List Value) (lo : Nat) (hbulk : p.bulk ≤ 1048576) (w : World) (hp : GPool.R lo w r p) (hok : poolOk p = true) (hfit : poolFits p c = true) :
    Calls Try.prog 10 #[.agg r.toArray, .agg #[.int .i64 c.kind, .int .i64 c.n, .string c.s, .int .i64 c.a.kind, .int .i64 c.a.n, .string c.a.s, .int .i64 c.b.kind, .int .i64 c.b.n, .string c.b.s]] w (PmPost w p c) := by
  have Hp := hp
  obtain ⟨u0, u1, rfl, -, a0, a1⟩ := hp
  obtain ⟨pa, pc, rfl⟩ := a0.form
  obtain ⟨qa, qc, rfl⟩ := a1.form
  obtain ⟨hp1, hp2, hp3⟩ := poolOk_parts hok
  have hlen : p.cells.length ≤ 1048576 := by omega
  have hlen2 : p.free.length ≤ 1048576 := by omega
  have c1 := fun W (hW : Below w.heap.size w W) => spec_PoolOk_c p _ lo hbulk W (GPool.good.below Hp hW)
  have c3 := fun W (hW : Below w.heap.size w W) => l20Cell_c p _ lo c hc hlen W (GPool.good.below Hp hW)
  have c4 := fun W (hW : Below w.heap.size w W) => l20Copy_c p _ lo hlen hlen2 W (GPool.good.below Hp hW)
  have hfull := fun (h0 : p.free.length = 0) (w' : World) => pm_full (w := w) (w' := w') ⟨hok, hfit⟩ h0
  have hyes := @pm_yes w (p := p) (c := c) (h := ⟨hok, hfit⟩)
  rw [hok] at c1
  rw [hfit] at c3
  replace c1 := Lib.hid c1; replace c3 := Lib.hid c3; replace c4 := Lib.hid c4; replace hfull := Lib.hid hfull; replace hyes := Lib.hid hyes
  replace hp3 := Lib.hid hp3; replace hok := Lib.hid hok; replace hfit := Lib.hid hfit
  clear a0 a1 hbulk
  go_enter Try.func10, Try.ntmps10
  go_upto_region 1 with fail
  have B : RowAt (w.alloc (.cells #[.slice pa p.cells.length pc, .slice qa p.free.length qc] 26)) (w.heap.size) 0 [.slice pa p.cells.length pc, .slice qa p.free.length qc] := RowAt.box w #[.slice pa p.cells.length pc, .slice qa p.free.length qc] 26
  have B := B.below (show Below (w.alloc (.cells #[.slice pa p.cells.length pc, .slice qa p.free.length qc] 26)).heap.size (w.alloc (.cells #[.slice pa p.cells.length pc, .slice qa p.free.length qc] 26)) ((w.alloc (.cells #[.slice pa p.cells.length pc, .slice qa p.free.length qc] 26)).alloc (.cells #[.int .i64 c.kind, .int .i64 c.n, .string c.s, .int .i64 c.a.kind, .int .i64 c.a.n, .string c.a.s, .int .i64 c.b.kind, .int .i64 c.b.n, .string c.b.s] 30)) by go_grown)
  have D : RowAt ((w.alloc (.cells #[.slice pa p.cells.length pc, .slice qa p.free.length qc] 26)).alloc (.cells #[.int .i64 c.kind, .int .i64 c.n, .string c.s, .int .i64 c.a.kind, .int .i64 c.a.n, .string c.a.s, .int .i64 c.b.kind, .int .i64 c.b.n, .string c.b.s] 30)) (w.heap.size + 1) 0 [.int .i64 c.kind, .int .i64 c.n, .string c.s, .int .i64 c.a.kind, .int .i64 c.a.n, .string c.a.s, .int .i64 c.b.kind, .int .i64 c.b.n, .string c.b.s] := by have h := RowAt.box (w.alloc (.cells #[.slice pa p.cells.length pc, .slice qa p.free.length qc] 26)) #[.int .i64 c.kind, .int .i64 c.n, .string c.s, .int .i64 c.a.kind, .int .i64 c.a.n, .string c.a.s, .int .i64 c.b.kind, .int .i64 c.b.n, .string c.b.s] 30; simp only [World.size_alloc] at h; exact h
  have B := B.below (show Below ((w.alloc (.cells #[.slice pa p.cells.length pc, .slice qa p.free.length qc] 26)).alloc (.cells #[.int .i64 c.kind, .int .i64 c.n, .string c.s, .int .i64 c.a.kind, .int .i64 c.a.n, .string c.a.s, .int .i64 c.b.kind, .int .i64 c.b.n, .string c.b.s] 30)).heap.size ((w.alloc (.cells #[.slice pa p.cells.length pc, .slice qa p.free.length qc] 26)).alloc (.cells #[.int .i64 c.kind, .int .i64 c.n, .string c.s, .int .i64 c.a.kind, .int .i64 c.a.n, .string c.a.s, .int .i64 c.b.kind, .int .i64 c.b.n, .string c.b.s] 30)) (((w.alloc (.cells #[.slice pa p.cells.length pc, .slice qa p.free.length qc] 26)).alloc (.cells #[.int .i64 c.kind, .int .i64 c.n, .string c.s, .int .i64 c.a.kind, .int .i64 c.a.n, .string c.a.s, .int .i64 c.b.kind, .int .i64 c.b.n, .string c.b.s] 30)).alloc (.cells #[.slice none 0 0, .slice none 0 0] 26)) by go_grown)
  have D := D.below (show Below ((w.alloc (.cells #[.slice pa p.cells.length pc, .slice qa p.free.length qc] 26)).alloc (.cells #[.int .i64 c.kind, .int .i64 c.n, .string c.s, .int .i64 c.a.kind, .int .i64 c.a.n, .string c.a.s, .int .i64 c.b.kind, .int .i64 c.b.n, .string c.b.s] 30)).heap.size ((w.alloc (.cells #[.slice pa p.cells.length pc, .slice qa p.free.length qc] 26)).alloc (.cells #[.int .i64 c.kind, .int .i64 c.n, .string c.s, .int .i64 c.a.kind, .int .i64 c.a.n, .string c.a.s, .int .i64 c.b.kind, .int .i64 c.b.n, .string c.b.s] 30)) (((w.alloc (.cells #[.slice pa p.cells.length pc, .slice qa p.free.length qc] 26)).alloc (.cells #[.int .i64 c.kind, .int .i64 c.n, .string c.s, .int .i64 c.a.kind, .int .i64 c.a.n, .string c.a.s, .int .i64 c.b.kind, .int .i64 c.b.n, .string c.b.s] 30)).alloc (.cells #[.slice none 0 0, .slice none 0 0] 26)) by go_grown)
  have E : RowAt (((w.alloc (.cells #[.slice pa p.cells.length pc, .slice qa p.free.length qc] 26)).alloc (.cells #[.int .i64 c.kind, .int .i64 c.n, .string c.s, .int .i64 c.a.kind, .int .i64 c.a.n, .string c.a.s, .int .i64 c.b.kind, .int .i64 c.b.n, .string c.b.s] 30)).alloc (.cells #[.slice none 0 0, .slice none 0 0] 26)) (w.heap.size + 1 + 1) 0 [.slice none 0 0, .slice none 0 0] := by have h := RowAt.box ((w.alloc (.cells #[.slice pa p.cells.length pc, .slice qa p.free.length qc] 26)).alloc (.cells #[.int .i64 c.kind, .int .i64 c.n, .string c.s, .int .i64 c.a.kind, .int .i64 c.a.n, .string c.a.s, .int .i64 c.b.kind, .int .i64 c.b.n, .string c.b.s] 30)) #[.slice none 0 0, .slice none 0 0] 26; simp only [World.size_alloc] at h; exact h
  have EW : Wr (((w.alloc (.cells #[.slice pa p.cells.length pc, .slice qa p.free.length qc] 26)).alloc (.cells #[.int .i64 c.kind, .int .i64 c.n, .string c.s, .int .i64 c.a.kind, .int .i64 c.a.n, .string c.a.s, .int .i64 c.b.kind, .int .i64 c.b.n, .string c.b.s] 30)).alloc (.cells #[.slice none 0 0, .slice none 0 0] 26)) (w.heap.size + 1 + 1) 0 2 := by have h := Wr.box ((w.alloc (.cells #[.slice pa p.cells.length pc, .slice qa p.free.length qc] 26)).alloc (.cells #[.int .i64 c.kind, .int .i64 c.n, .string c.s, .int .i64 c.a.kind, .int .i64 c.a.n, .string c.a.s, .int .i64 c.b.kind, .int .i64 c.b.n, .string c.b.s] 30)) #[.slice none 0 0, .slice none 0 0] 26; simp only [World.size_alloc] at h; exact h
  have hw : Below w.heap.size w (((w.alloc (.cells #[.slice pa p.cells.length pc, .slice qa p.free.length qc] 26)).alloc (.cells #[.int .i64 c.kind, .int .i64 c.n, .string c.s, .int .i64 c.a.kind, .int .i64 c.a.n, .string c.a.s, .int .i64 c.b.kind, .int .i64 c.b.n, .string c.b.s] 30)).alloc (.cells #[.slice none 0 0, .slice none 0 0] 26)) := by go_grown
  generalize (((w.alloc (.cells #[.slice pa p.cells.length pc, .slice qa p.free.length qc] 26)).alloc (.cells #[.int .i64 c.kind, .int .i64 c.n, .string c.s, .int .i64 c.a.kind, .int .i64 c.a.n, .string c.a.s, .int .i64 c.b.kind, .int .i64 c.b.n, .string c.b.s] 30)).alloc (.cells #[.slice none 0 0, .slice none 0 0] 26)) = w0 at *
  obtain ⟨b_0, b_1⟩ := B.box2; have hsB := World.block_lt_of_cell? _ _ b_0; dsimp only at hsB; obtain ⟨d_0, d_1, d_2, d_3, d_4, d_5, d_6, d_7, d_8⟩ := D.box9; have hsD := World.block_lt_of_cell? _ _ d_0; dsimp only at hsD; have ef_0 := EW.frz 0 (by omega); have ef_1 := EW.frz 1 (by omega); obtain ⟨e_0, e_1⟩ := E.box2; have hsE := World.block_lt_of_cell? _ _ e_0; dsimp only at hsE
  go_upto_region 3 with (first
      | (go_at_call 42; (with_reducible refine (c1.out _ hw).mono ?_); rintro en w5 ⟨rfl, hbk⟩; have hw5 : Below w.heap.size w w5 := hw.trans (hbk.mono hw.size); have B5 := B.below hbk; have D5 := D.below hbk; have E5 := E.below hbk; have EW5 := EW.below hbk; obtain ⟨b5_0, b5_1⟩ := B5.box2; have hsB5 := World.block_lt_of_cell? _ _ b5_0; dsimp only at hsB5; obtain ⟨d5_0, d5_1, d5_2, d5_3, d5_4, d5_5, d5_6, d5_7, d5_8⟩ := D5.box9; have hsD5 := World.block_lt_of_cell? _ _ d5_0; dsimp only at hsD5)
      | (go_at_call 43; (with_reducible refine (c3.out _ hw5).mono ?_); rintro en w7 ⟨rfl, hbk⟩; have hw7 : Below w.heap.size w w7 := hw5.trans (hbk.mono hw5.size); have B7 := B5.below hbk; have D7 := D5.below hbk; have E7 := E5.below hbk; have EW7 := EW5.below hbk))
  obtain ⟨e7_0, e7_1⟩ := E7.box2; have hsE7 := World.block_lt_of_cell? _ _ e7_0; dsimp only at hsE7; have e7f_0 := EW7.frz 0 (by omega); have e7f_1 := EW7.frz 1 (by omega)
  obtain ⟨b7_0, b7_1⟩ := B7.box2
  by_cases h0 : p.free.length = 0
  · have hz := hfull.out h0
    have d1 : ((p.free.length : Int) == 0) = true := by rw [h0]; rfl
    replace h0 := Lib.hid h0; replace hz := Lib.hid hz
    go_wp2_with fail
    have q := stored2 (x := .slice none 0 0) (y := .slice none 0 0) e7_0 e7_1
    refine bodyPost_ret (v := .tuple #[.agg #[.slice none 0 0, .slice none 0 0], .int .i64 0, .int .i64 2]) (by simp [results, Try.results10, go_sem, q.1, q.2]) rfl ?_
    exact hz.out _ (below_set2 hw7 (by omega) _ _)
  · obtain ⟨m, hm⟩ : ∃ m, p.free.length = m + 1 := ⟨p.free.length - 1, by omega⟩
    have hn0 : 0 < p.cells.length := by omega
    have d1 : decide ((p.free.length : Int) = 0) = false := decide_eq_false (by omega)
    replace c4 := c4.out
    rw [hm] at c4
    replace c4 := Lib.hid c4
    have hmh := Lib.hid hm
    go_upto_region 7 with (go_at_call 44; (with_reducible refine (c4.out _ hw7).mono ?_); rintro en w8 ⟨v0, v1, rfl, OP, hbk⟩; obtain ⟨gc, cc, rfl, hgc1, hgc2, hcc, hccm, hcR, hcW⟩ := own_cells OP.cells.1 hn0; have OF : w8.ownsRow w7.heap.size 3 1 v1 (m + 1) (rowsOf intRow p.free) := hmh.out ▸ OP.free.1; obtain ⟨gf, cf, rfl, hgf1, hgf2, hcf, hcfm, hfR, hfW⟩ := own_cells OF (by omega); have hw8 : Below w.heap.size w w8 := hw7.trans (hbk.mono hw7.size); have E8 := E7.below hbk; have EW8 := EW7.below hbk; have D8 := D7.below hbk)
    obtain ⟨j, hjf, hjn⟩ : ∃ j : Nat, p.free[m]? = some (j : Int) ∧ j < p.cells.length := by
      obtain ⟨f, hf⟩ : ∃ f, p.free[m]? = some f := ⟨_, List.getElem?_eq_getElem (by omega)⟩
      obtain ⟨j, rfl, h⟩ := hp3.out m f hf
      exact ⟨j, hf, h⟩
    have hfm : w8.cell? ⟨gf, m, none⟩ = some (.int .i64 (j : Int)) := by
      have := hfR m (.int .i64 (j : Int)) (by simpa using flatInt.get (j := 0) (c := .int .i64 (j : Int)) hjf rfl)
      simpa using this
    replace hjf := Lib.hid hjf
    clear hfR hfW OF c1 c3 c4 hcR
    obtain ⟨w9, hW9⟩ : ∃ W, W = w8.alloc (.cells #[.slice (some ⟨gc, 0, none⟩) p.cells.length cc, .slice (some ⟨gf, 0, none⟩) (m + 1) cf] 26) := ⟨_, rfl⟩
    rw [← hW9]
    have hb9 : Below w8.heap.size w8 w9 := by rw [hW9]; go_grown
    have Q : RowAt w9 w8.heap.size 0 [.slice (some ⟨gc, 0, none⟩) p.cells.length cc, .slice (some ⟨gf, 0, none⟩) (m + 1) cf] := by rw [hW9]; exact RowAt.box w8 #[_, _] _
    have QW : Wr w9 w8.heap.size 0 2 := by rw [hW9]; exact Wr.box w8 #[_, _] _
    clear hW9
    replace hfm := cell_below hb9 hfm
    obtain ⟨q_0, q_1⟩ := Q.box2
    have qf_1 := QW.frz 1 (by omega)
    go_upto_region 9 with fail
    obtain ⟨w10, hW10⟩ : ∃ W, W = w9.setCell ⟨w8.heap.size, 1, none⟩ (.slice (some ⟨gf, 0, none⟩) m cf) := ⟨_, rfl⟩
    rw [← hW10]
    have hb10 : Below w8.heap.size w8 w10 := by rw [hW10]; exact hb9.setCell (p := ⟨w8.heap.size, 1, none⟩) (Nat.le_refl _) _
    have Q10 : RowAt w10 w8.heap.size 0 [.slice (some ⟨gc, 0, none⟩) p.cells.length cc, .slice (some ⟨gf, 0, none⟩) m cf] := by
      have q := stored2' (y := .slice (some ⟨gf, 0, none⟩) m cf) q_0 q_1
      rw [← hW10] at q
      exact RowAt.of2 q.1 q.2
    clear hW10 hb9 Q QW hfm q_0 q_1 qf_1
    have E10 := E8.below hb10; have EW10 := EW8.below hb10; have D10 := D8.below hb10; have OP10 := OP.below hb10; have hw10 := hw8.trans (hb10.mono hw8.size); have hcW10 := hcW.below hb10
    clear E8 EW8 D8 hcW E7 EW7 D7
    have hs10 : w8.heap.size < w10.heap.size := World.block_lt_of_cell? _ _ Q10.box2.1
    have hA : Arr w10 gc (p.cells.length * 9) := fun t ht => by simpa using hcW10 t ht
    clear hcW10 hb10
    obtain ⟨x0, k0, f0⟩ := hA (j * 9) (by omega); obtain ⟨x1, k1, f1⟩ := hA (j * 9 + 1) (by omega); obtain ⟨x2, k2, f2⟩ := hA (j * 9 + 2) (by omega); obtain ⟨x3, k3, f3⟩ := hA (j * 9 + 3) (by omega); obtain ⟨x4, k4, f4⟩ := hA (j * 9 + 4) (by omega); obtain ⟨x5, k5, f5⟩ := hA (j * 9 + 5) (by omega); obtain ⟨x6, k6, f6⟩ := hA (j * 9 + 6) (by omega); obtain ⟨x7, k7, f7⟩ := hA (j * 9 + 7) (by omega); obtain ⟨x8, k8, f8⟩ := hA (j * 9 + 8) (by omega)
    obtain ⟨q_0, q_1⟩ := Q10.box2
    obtain ⟨d10_0, d10_1, d10_2, d10_3, d10_4, d10_5, d10_6, d10_7, d10_8⟩ := D10.box9; have hsD10 := World.block_lt_of_cell? _ _ d10_0; dsimp only at hsD10
    go_upto_region 10 with fail
    obtain ⟨w11, hW11⟩ : ∃ W, W = storeRow w10 gc (j * 9) (cellRow c) := ⟨_, rfl⟩
    change Code.wp _ _ _ _ (storeRow w10 gc (j * 9) (cellRow c))
    rw [← hW11]
    have K11 : Kept (· = gc) w10 w11 := by rw [hW11]; exact kept_storeRow gc _ _ (Kept.refl _ _)
    have E11 := E10.kept K11 (by have := hw7.size; omega)
    have EW11 := EW10.kept K11 (by have := hw7.size; omega)
    have Q11 := Q10.kept K11 (by omega)
    have hend := fun u0 u1 => pm_end (w := w) (lo := w.heap.size) (E := w.heap.size + 1 + 1) (c := c) rfl hm OP10 hjn hc hsE7 (by omega) hw10 u0 u1
    rw [← hW11] at hend
    replace hend := Lib.hid hend
    clear hW11 k0 k1 k2 k3 k4 k5 k6 k7 k8 f0 f1 f2 f3 f4 f5 f6 f7 f8 q_0 q_1 d10_0 d10_1 d10_2 d10_3 d10_4 d10_5 d10_6 d10_7 d10_8 hA
    obtain ⟨q_0, q_1⟩ := Q11.box2
    obtain ⟨e_0, e_1⟩ := E11.box2
    have ef_0 := EW11.frz 0 (by omega); have ef_1 := EW11.frz 1 (by omega)
    go_wp2_with fail
    have q := stored2 (x := .slice (some ⟨gc, 0, none⟩) p.cells.length cc) (y := .slice (some ⟨gf, 0, none⟩) m cf) e_0 e_1
    refine bodyPost_ret (v := .tuple #[.agg #[.slice (some ⟨gc, 0, none⟩) p.cells.length cc, .slice (some ⟨gf, 0, none⟩) m cf], .int .i64 (j : Int), .int .i64 0]) (by simp [results, Try.results10, go_sem, q.1, q.2]) rfl ?_
    have hz := hend.out (.slice (some ⟨gc, 0, none⟩) p.cells.length cc) (.slice (some ⟨gf, 0, none⟩) m cf)
    exact hyes.out _ m j _ _ hmh.out hjf.out hz.1 hz.2


theorem impl_PoolMake_c (p : GPool) (c : GCell) (r q : List Value) (lo lo2 : Nat) (hbulk : p.bulk ≤ 1048576) (w : World) (hp : GPool.R lo w r p) (hq : GCell.R lo2 w q c) :
    Calls Try.prog 9 #[.agg r.toArray, .agg q.toArray] w (PmPost w p c) := by
  obtain ⟨rfl, hc⟩ := hq
  by_cases h : poolOk p = true ∧ poolFits p c = true
  · exact impl_PoolMake_yes p c hc r lo hbulk w hp h.1 h.2
  · exact impl_PoolMake_no p c r lo hbulk w hp h
theorem spec_PoolMake_c (p : GPool) (c : GCell) (r q : List Value) (lo lo2 : Nat) (hbulk : p.bulk ≤ 1048576) (w : World) (hp : GPool.R lo w r p) (hq : GCell.R lo2 w q c) :
    Calls Try.prog 10 #[.agg r.toArray, .agg q.toArray] w (PmPost w p c) := by
  obtain ⟨rfl, hc⟩ := hq
  by_cases h : poolOk p = true ∧ poolFits p c = true
  · exact spec_PoolMake_yes p c hc r lo hbulk w hp h.1 h.2
  · exact spec_PoolMake_no p c hc r lo hbulk w hp h

end Go.Proofs.Ytajbgkpjmgmdhaa
