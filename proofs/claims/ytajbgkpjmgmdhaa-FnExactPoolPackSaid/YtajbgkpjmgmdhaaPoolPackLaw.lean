/- The law PoolPack: printed by gen_poolpacklaw.py. -/
import Derived.Test.YtajbgkpjmgmdhaaPack7
import Derived.Test.YtajbgkpjmgmdhaaPoolBox
import Derived.Test.YtajbgkpjmgmdhaaToOwnPool
import Derived.Test.YtajbgkpjmgmdhaaToOwnVal
import Derived.Test.YtajbgkpjmgmdhaaPoolMk
import Derived.Test.YtajbgkpjmgmdhaaMarkOwnVal
import Derived.Test.YtajbgkpjmgmdhaaEq
import Derived.Test.YtajbgkpjmgmdhaaSz
namespace Go.Proofs.Ytajbgkpjmgmdhaa
open Go.RowKit
set_option linter.unusedVariables false
set_option linter.unusedSimpArgs false
attribute [local go_sem] Ext.cell

theorem eqCellS_same {x : List GCell} {u v : Value} {lo lo' : Nat} {w : World} (hx : Sl GCell.R 9 lo w u x) (hy : Sl GCell.R 9 lo' w v x) :
    Calls Try.prog 31 #[u, v] w fun e w' => e = .returned (.bool true) ∧ Below w.heap.size w w' :=
  (eqCellS_c x x _ _ _ _ w hx hy).mono fun e w' ⟨he, hb⟩ => ⟨by rw [he, decide_eq_true rfl], hb⟩
theorem pp_len (p : GPool) (roots : List GVal) : (ppC p roots).length ≤ 4000 ∧ (ppV p roots).length ≤ roots.length := by
  unfold ppC ppV
  split
  · rename_i h

    have H := heapIn_of h.1 h.2
    have B := (bloop_all H).inv.le
    obtain ⟨h1, h2, -⟩ := poolOk_parts h.1
    constructor
    · unfold packedC; rw [List.length_map]; omega
    · unfold packedV; rw [List.length_map]; omega
  · rename_i h
    simp

namespace fnExactPoolPack
set_option maxRecDepth 100000 in
set_option maxHeartbeats 8000000 in
theorem law (x0 : GPool) (x1 : List GVal) (r0 : List Value) (u : Value) (w : World) (hx0 : GPool.R 0 w r0 x0) (hx1 : Sl GVal.R 3 0 w u x1) :
    Calls Try.prog 7 #[.agg r0.toArray, u] w fun en w' => en = .returned (.bool true) ∧ Below w.heap.size w w' := by
  have Hx0 := hx0
  have Hx1 := hx1
  obtain ⟨u0, u1, rfl, -, a0, a1⟩ := hx0
  obtain ⟨pa, pc, rfl⟩ := a0.form
  obtain ⟨qa, qc, rfl⟩ := a1.form
  obtain ⟨va, vc, rfl⟩ := hx1.form
  clear a0 a1 hx1
  have z0 := GPool.bulk_nonneg x0
  have z1 := bulkS_nonneg GVal.bulk_nonneg x1
  go_enter Try.func7, Try.ntmps7
  go_upto_region 1 with fail
  have B : RowAt (w.alloc (.cells #[.slice pa x0.cells.length pc, .slice qa x0.free.length qc] 41)) (w.heap.size) 0 [.slice pa x0.cells.length pc, .slice qa x0.free.length qc] := RowAt.box w #[.slice pa x0.cells.length pc, .slice qa x0.free.length qc] 41
  have hw : Below w.heap.size w (w.alloc (.cells #[.slice pa x0.cells.length pc, .slice qa x0.free.length qc] 41)) := by go_grown
  generalize (w.alloc (.cells #[.slice pa x0.cells.length pc, .slice qa x0.free.length qc] 41)) = w0 at *
  obtain ⟨b_0, b_1⟩ := B.box2; have hsB := World.block_lt_of_cell? _ _ b_0; dsimp only at hsB
  go_wp2_with fail
  refine (szPool_c x0 _ 0 _ (by omega) (by omega) _ (GPool.good.below Hx0 hw)).mono ?_
  rintro en w1 ⟨n1, rfl, (⟨g0, rfl⟩ | ⟨g0, rfl⟩), hb⟩
  rotate_left
  · replace hw : Below w.heap.size w w1 := hw.trans (hb.mono hw.size)
    go_wp2
    go_returns
    exact ⟨rfl, hw⟩
  have hw := hw.trans (hb.mono hw.size); have B := B.below hb; obtain ⟨b_0, b_1⟩ := B.box2; have hsB := World.block_lt_of_cell? _ _ b_0; dsimp only at hsB; clear hb
  go_wp2_with fail
  refine (szValS_c x1 _ 0 _ (by omega) (by omega) _ (Hx1.below GVal.good hw)).mono ?_
  rintro en w2 ⟨n2, rfl, (⟨g1, rfl⟩ | ⟨g1, rfl⟩), hb⟩
  rotate_left
  · replace hw : Below w.heap.size w w2 := hw.trans (hb.mono hw.size)
    go_wp2
    go_returns
    exact ⟨rfl, hw⟩
  have hw := hw.trans (hb.mono hw.size); have B := B.below hb; obtain ⟨b_0, b_1⟩ := B.box2; have hsB := World.block_lt_of_cell? _ _ b_0; dsimp only at hsB; clear hb
  have c1 := fun W (hW : Below w.heap.size w W) => toPool_o x0 _ 0 (by omega) W (GPool.good.below Hx0 hW)
  have c2 := fun W (hW : Below w.heap.size w W) => toValS_o x1 _ 0 (by omega) W (Hx1.below GVal.good hW)
  replace c1 := Lib.hid c1; replace c2 := Lib.hid c2
  have n0 := length_le_bulkS (f := GCell.bulk) GCell.bulk_nonneg x0.cells
  have n1' := length_le_bulkS (f := GVal.bulk) GVal.bulk_nonneg x1
  have hbk0 := bulkS_nonneg GCell.bulk_nonneg x0.cells
  have hbulk : x0.bulk ≤ 1048576 := by omega
  have hN0 : x0.cells.length ≤ 1048576 := by have := hbulk; simp only [GPool.bulk] at this; omega
  have hM0 : x0.free.length ≤ 1048576 := by have := hbulk; simp only [GPool.bulk] at this; omega
  have hR0 : x1.length ≤ 1048576 := by omega
  clear n0 hbk0 n1'
  have hlen := Lib.hid (pp_len x0 x1)
  go_upto_region 9 with (first
    | (go_at_call 16; (with_reducible refine (c1.out _ hw).mono ?_); rintro en wt1 ⟨t0, t1, rfl, OT, hb⟩; obtain ⟨ta, tc, rfl⟩ := OT.cells.form; obtain ⟨tb, td, rfl⟩ := OT.free.form; have hwt1 := hw.trans (hb.mono hw.size); have hbt1 := hb)
    | (go_at_call 27; (with_reducible refine (c2.out _ hwt1).mono ?_); rintro en wt2 ⟨t2, rfl, OV0, hb⟩; obtain ⟨tva, tvc, rfl⟩ := OV0.form; have hwt2 := hwt1.trans (hb.mono hwt1.size); have hbt2 := hbt1.trans (hb.mono hbt1.size); replace OT := OT.below hb)
    | (go_at_call 30; (with_reducible refine (spec_PoolPack_c x0 x1 _ _ _ _ hbulk hR0 _ OT.R (OV0.sl flatVal)).mono ?_); rintro en w3 ⟨s0, s1, rfl, OWc, OWv, hapW, hb⟩; obtain ⟨Wa, Wb, rfl⟩ := OWc.form; obtain ⟨Wd, We, rfl⟩ := OWv.form; replace hb := hbt2.trans (hb.mono hbt2.size); replace OWc := OWc.mono hbt2.size; replace OWv := OWv.mono hbt2.size))
  have hWc := OWc.base; have hWv := OWv.base
  clear hbt1 hbt2 hwt1 hwt2 OT OV0
  clear b_0 b_1
  clear hsB
  replace B := B.below hb; replace hw := hw.trans (hb.mono hw.size)
  clear hb
  obtain ⟨b_0, b_1⟩ := B.box2
  have hsB := World.block_lt_of_cell? _ _ b_0; dsimp only at hsB
  have hD3 : w.heap.size < w3.heap.size := hsB
  go_upto_region 10 with (go_at_call 16; (with_reducible refine (c1.out _ hw).mono ?_); rintro en w4 ⟨t0, t1, rfl, OT, hb⟩; obtain ⟨xa, xc, rfl⟩ := OT.cells.form; obtain ⟨xb, xd, rfl⟩ := OT.free.form)
  have hz4 := hb.size
  clear b_0 b_1
  clear hsB
  replace B := B.below hb; replace OWc := OWc.below hb; replace OWv := OWv.below hb; replace hw := hw.trans (hb.mono hw.size)
  clear hb
  obtain ⟨w5, hW5⟩ : ∃ W, W = w4.alloc (.cells #[.slice xa x0.cells.length xc, .slice xb x0.free.length xd] 26) := ⟨_, rfl⟩
  rw [← hW5]
  obtain ⟨BX, FX, gx1, gx2, gx3⟩ := pbox_made (ty := 26) hz4 OT
  rw [← hW5] at BX FX gx2 gx3
  have hb : Below w4.heap.size w4 w5 := by rw [hW5]; go_grown
  clear hW5 OT
  replace B := B.below hb; replace OWc := OWc.below hb; replace OWv := OWv.below hb; replace hw := hw.trans (hb.mono hw.size)
  clear hb
  generalize w4.heap.size = gx at *
  go_upto_region 11 with (go_at_call 27; (with_reducible refine (c2.out _ hw).mono ?_); rintro en w6 ⟨t2, rfl, OV, hb⟩; obtain ⟨ya, yc, rfl⟩ := OV.form)
  have hz6 := hb.size
  have gv3 := OV.base
  replace B := B.below hb; replace OWc := OWc.below hb; replace OWv := OWv.below hb; replace BX := BX.below hb; replace FX := FX.below hb; replace hw := hw.trans (hb.mono hw.size)
  clear hb
  obtain ⟨bx_0, bx_1⟩ := BX.box2
  have hzz := Nat.le_refl w6.heap.size
  go_upto_region 12 with (first
    | (go_at_call 24; (with_reducible refine (impl_PoolPack_c x0 x1 _ _ _ _ hbulk hR0 _ FX.R (OV.sl flatVal)).mono ?_); rintro en w7 ⟨s0, s1, rfl, OGc, OGv, hapG, hb⟩; obtain ⟨Ga, Gb, rfl⟩ := OGc.form; obtain ⟨Gd, Ge, rfl⟩ := OGv.form))
  have hGc := OGc.base; have hGv := OGv.base
  clear bx_0 bx_1
  replace hzz := Nat.le_trans hzz hb.size
  replace B := B.below hb; replace OWc := OWc.below hb; replace OWv := OWv.below hb; replace BX := BX.below hb; replace FX := FX.below hb; replace OV := OV.below hb; replace hw := hw.trans (hb.mono hw.size)
  clear hb
  go_wp2_with fail
  refine (eqCellS_same (OGc.sl flatCell) (OWc.sl flatCell)).mono ?_
  rintro e w8q ⟨rfl, hb⟩
  replace hzz := Nat.le_trans hzz hb.size
  replace B := B.below hb; replace OWc := OWc.below hb; replace OWv := OWv.below hb; replace BX := BX.below hb; replace FX := FX.below hb; replace OV := OV.below hb; replace OGc := OGc.below hb; replace OGv := OGv.below hb; replace hw := hw.trans (hb.mono hw.size)
  clear hb
  go_wp2_with fail
  refine (eqValS_same (OGv.sl flatVal) (OWv.sl flatVal)).mono ?_
  rintro e w9q ⟨rfl, hb⟩
  replace hzz := Nat.le_trans hzz hb.size
  replace B := B.below hb; replace OWc := OWc.below hb; replace OWv := OWv.below hb; replace BX := BX.below hb; replace FX := FX.below hb; replace OV := OV.below hb; replace OGc := OGc.below hb; replace OGv := OGv.below hb; replace hw := hw.trans (hb.mono hw.size)
  clear hb
  obtain ⟨bx_0, bx_1⟩ := BX.box2
  obtain ⟨b_0, b_1⟩ := B.box2
  have hsB := World.block_lt_of_cell? _ _ b_0; dsimp only at hsB
  go_upto_region 14 with fail
  have hK := Below.refl w9q.heap.size w9q; have hsK := hK.size
  go_region_held3 (fun w' => w'.cell? ⟨gx, 0, none⟩ = some (.slice xa x0.cells.length xc) ∧ w'.cell? ⟨gx, 1, none⟩ = some (.slice xb x0.free.length xd) ∧ w'.cell? ⟨w.heap.size, 0, none⟩ = some (.slice pa x0.cells.length pc) ∧ w'.cell? ⟨w.heap.size, 1, none⟩ = some (.slice qa x0.free.length qc))
    (first | go_keep | (refine ⟨cell_below hbk ?_, cell_below hbk ?_, cell_below hbk ?_, cell_below hbk ?_⟩ <;> go_keep) | (refine ⟨?_, ?_, ?_, ?_⟩ <;> go_keep))
    (first
      | (go_at_call 16; (with_reducible refine (c1.out _ (hw.trans (Below.mono (by go_grown) hw.size))).mono ?_); rintro en w9 ⟨t0, t1, rfl, OT, hbk⟩; obtain ⟨ta, tc, rfl⟩ := OT.cells.form; obtain ⟨tb, td, rfl⟩ := OT.free.form; have hK : Below w9q.heap.size w9q w9 := Below.trans (by go_grown) (hbk.mono (by first | (simp; done) | (have := hK.size; simp; omega) | (have := hK.size; omega))))
      | (go_at_call 18; (with_reducible refine (eqPool_same (GPool.good.below FX.R hK) OT.R).mono ?_); rintro en w10 ⟨rfl, hbk⟩; have hb : Below w9q.heap.size w9q w10 := hK.trans (hbk.mono hK.size)))
  clear bx_0 bx_1 b_0 b_1
  clear hsB hK hbk OT
  replace hzz := Nat.le_trans hzz hb.size
  replace B := B.below hb; replace OWc := OWc.below hb; replace OWv := OWv.below hb; replace BX := BX.below hb; replace FX := FX.below hb; replace OV := OV.below hb; replace OGc := OGc.below hb; replace OGv := OGv.below hb; replace hw := hw.trans (hb.mono hw.size)
  clear hb
  go_upto_region 16 with fail
  go_wp2_with (first | (go_at_call 27; (with_reducible refine (c2.out _ hw).mono ?_); rintro en w11 ⟨t2, rfl, OV0, hb⟩; obtain ⟨tva, tvc, rfl⟩ := OV0.form; have hwv := hw.trans (hb.mono hw.size); have hbv := hb) | fail)
  refine (eqValS_same ((OV.below hbv).sl flatVal) (OV0.sl flatVal)).mono ?_
  rintro e w12 ⟨rfl, hb⟩
  replace hb := hbv.trans (hb.mono hbv.size)
  clear hwv hbv OV0
  replace hzz := Nat.le_trans hzz hb.size
  replace B := B.below hb; replace OWc := OWc.below hb; replace OWv := OWv.below hb; replace BX := BX.below hb; replace FX := FX.below hb; replace OV := OV.below hb; replace OGc := OGc.below hb; replace OGv := OGv.below hb; replace hw := hw.trans (hb.mono hw.size)
  clear hb
  obtain ⟨bx_0, bx_1⟩ := BX.box2
  go_wp2_with fail
  refine (markPool_c x0 w3.heap.size _ _ _ _ rfl rfl hN0 hM0 w12 FX (by have := hw.size; omega)).mono ?_
  rintro e w13 ⟨rfl, hMX, hb, hK⟩
  have nB : ∀ k, (k < w3.heap.size ∨ w5.heap.size ≤ k) → ¬ ((Value.slice xa x0.cells.length xc).ownBlock = some k ∨ (Value.slice xb x0.free.length xd).ownBlock = some k) := fun k hk h => by have := gx3 k h; omega
  clear bx_0 bx_1
  replace B := B.kept hK (nB _ (by omega)); replace OWc := OWc.kept hK (fun g hg => nB g (.inl (by have := hWc g hg; omega))); replace OWv := OWv.kept hK (fun g hg => nB g (.inl (by have := hWv g hg; omega))); replace OGc := OGc.kept hK (fun g hg => nB g (.inr (by have := hGc g hg; omega))); replace OGv := OGv.kept hK (fun g hg => nB g (.inr (by have := hGv g hg; omega))); replace OV := OV.kept hK (fun g hg => nB g (.inr (by have := gv3 g hg; omega)))
  replace hzz := Nat.le_trans hzz hb.size; replace hw := hw.trans (hb.mono (by have := hw.size; omega))
  clear hb hK FX BX hMX nB
  go_wp2_with fail
  refine (markVals_c (.slice ya x1.length yc) x1.length (1 + x0.cells.length * 9 + x0.free.length) w5.heap.size (1 + (x0.cells.length : Int) * 9 + x0.free.length) (1 + (x0.cells.length : Int) * 9 + x0.free.length + x1.length * 3) (by omega) rfl (by omega) _ w13 OV.1 (by have := hw.size; omega)).mono ?_
  rintro e w14 ⟨rfl, hMV, hb, hK⟩
  have d1 : decide (1 + (x0.cells.length : Int) * 9 + x0.free.length + x1.length * 3 < 0) = false := decide_eq_false (by omega)
  have nB : ∀ k, (k < w5.heap.size ∨ w6.heap.size ≤ k) → ¬ ((Value.slice ya x1.length yc).ownBlock = some k) := fun k hk h => by have := gv3 k h; omega
  replace B := B.kept hK (nB _ (by omega)); replace OWc := OWc.kept hK (fun g hg => nB g (.inl (by have := hWc g hg; omega))); replace OWv := OWv.kept hK (fun g hg => nB g (.inl (by have := hWv g hg; omega))); replace OGc := OGc.kept hK (fun g hg => nB g (.inr (by have := hGc g hg; omega))); replace OGv := OGv.kept hK (fun g hg => nB g (.inr (by have := hGv g hg; omega)))
  replace hzz := Nat.le_trans hzz hb.size; replace hw := hw.trans (hb.mono (by have := hw.size; omega))
  clear hb hK OV hMV nB
  go_wp2_with fail
  refine (eqCellS_same (OGc.sl flatCell) (OWc.sl flatCell)).mono ?_
  rintro e w15q ⟨rfl, hb⟩
  replace hzz := Nat.le_trans hzz hb.size
  replace B := B.below hb; replace OWc := OWc.below hb; replace OWv := OWv.below hb; replace OGc := OGc.below hb; replace OGv := OGv.below hb; replace hw := hw.trans (hb.mono hw.size)
  clear hb
  go_wp2_with fail
  refine (eqValS_same (OGv.sl flatVal) (OWv.sl flatVal)).mono ?_
  rintro e w16q ⟨rfl, hb⟩
  replace hzz := Nat.le_trans hzz hb.size
  replace B := B.below hb; replace OWc := OWc.below hb; replace OWv := OWv.below hb; replace OGc := OGc.below hb; replace OGv := OGv.below hb; replace hw := hw.trans (hb.mono hw.size)
  clear hb
  obtain ⟨hl0, hl1⟩ := hlen.out
  go_wp2_with fail
  refine (markCells_c (.slice Ga (ppC x0 x1).length Gb) (ppC x0 x1).length 1 w6.heap.size 1 (1 + ((ppC x0 x1).length : Int) * 9) rfl rfl (by omega) _ w16q OGc.1 (by have := hw.size; omega)).mono ?_
  rintro e w17a ⟨rfl, hMc, hb, hK⟩
  have nB : ∀ k, k < w6.heap.size → ¬ ((Value.slice Ga (ppC x0 x1).length Gb).ownBlock = some k) := fun k hk h => by have := hGc k h; omega
  replace OGv := OGv.kept hK (fun g hg e => hapG g e hg)
  replace B := B.kept hK (nB _ (by omega)); replace OWc := OWc.kept hK (fun g hg => nB g (by have := hWc g hg; omega)); replace OWv := OWv.kept hK (fun g hg => nB g (by have := hWv g hg; omega))
  replace hzz := Nat.le_trans hzz hb.size; replace hw := hw.trans (hb.mono (by have := hw.size; omega))
  clear hb hK OGc nB
  go_wp2_with fail
  refine (markVals_c (.slice Gd (ppV x0 x1).length Ge) (ppV x0 x1).length (1 + (ppC x0 x1).length * 9) w6.heap.size (1 + ((ppC x0 x1).length : Int) * 9) (1 + ((ppC x0 x1).length : Int) * 9 + (ppV x0 x1).length * 3) (by omega) rfl (by omega) _ w17a OGv.1 (by have := hw.size; omega)).mono ?_
  rintro e w17b ⟨rfl, hMv, hb, hK⟩
  have nB : ∀ k, k < w6.heap.size → ¬ ((Value.slice Gd (ppV x0 x1).length Ge).ownBlock = some k) := fun k hk h => by have := hGv k h; omega
  replace hMc := hMc.kept hK (fun g hg e => hapG g hg e)
  replace B := B.kept hK (nB _ (by omega)); replace OWc := OWc.kept hK (fun g hg => nB g (by have := hWc g hg; omega)); replace OWv := OWv.kept hK (fun g hg => nB g (by have := hWv g hg; omega))
  replace hzz := Nat.le_trans hzz hb.size; replace hw := hw.trans (hb.mono (by have := hw.size; omega))
  clear hb hK OGv nB
  have d2 : decide (1 + ((ppC x0 x1).length : Int) * 9 < 0) = false := decide_eq_false (by omega)
  have d3 : decide (1 + ((ppC x0 x1).length : Int) * 9 + (ppV x0 x1).length * 3 < 0) = false := decide_eq_false (by omega)
  go_wp2_with fail
  refine (heldCells_c (.slice Ga (ppC x0 x1).length Gb) (ppC x0 x1).length 1 1 (1 + ((ppC x0 x1).length : Int) * 9) rfl rfl (by omega) _ hMc).mono ?_
  rintro e w17c ⟨rfl, hb⟩
  replace hzz := Nat.le_trans hzz hb.size
  replace B := B.below hb; replace OWc := OWc.below hb; replace OWv := OWv.below hb; replace hMc := hMc.below hb; replace hMv := hMv.below hb; replace hw := hw.trans (hb.mono hw.size)
  clear hb
  go_wp2_with fail
  refine (heldVals_c (.slice Gd (ppV x0 x1).length Ge) (ppV x0 x1).length (1 + (ppC x0 x1).length * 9) (1 + ((ppC x0 x1).length : Int) * 9) (1 + ((ppC x0 x1).length : Int) * 9 + (ppV x0 x1).length * 3) (by omega) rfl (by omega) _ hMv).mono ?_
  rintro e w17d ⟨rfl, hb⟩
  replace hzz := Nat.le_trans hzz hb.size
  replace B := B.below hb; replace OWc := OWc.below hb; replace OWv := OWv.below hb; replace hMc := hMc.below hb; replace hMv := hMv.below hb; replace hw := hw.trans (hb.mono hw.size)
  clear hb
  obtain ⟨b_0, b_1⟩ := B.box2
  have hsB := World.block_lt_of_cell? _ _ b_0; dsimp only at hsB
  go_upto_region 35 with fail
  go_upto_region 36 with (first
    | (go_at_call 16; (with_reducible refine (c1.out _ hw).mono ?_); rintro en wt1 ⟨t0, t1, rfl, OT, hb⟩; obtain ⟨ta, tc, rfl⟩ := OT.cells.form; obtain ⟨tb, td, rfl⟩ := OT.free.form; have hwt1 := hw.trans (hb.mono hw.size); have hbt1 := hb)
    | (go_at_call 27; (with_reducible refine (c2.out _ hwt1).mono ?_); rintro en wt2 ⟨t2, rfl, OV0, hb⟩; obtain ⟨tva, tvc, rfl⟩ := OV0.form; have hwt2 := hwt1.trans (hb.mono hwt1.size); have hbt2 := hbt1.trans (hb.mono hbt1.size); replace OT := OT.below hb)
    | (go_at_call 24; (with_reducible refine (impl_PoolPack_c x0 x1 _ _ _ _ hbulk hR0 _ OT.R (OV0.sl flatVal)).mono ?_); rintro en w18 ⟨s0, s1, rfl, OHc, OHv, hapH, hb⟩; obtain ⟨Ha, Hb, rfl⟩ := OHc.form; obtain ⟨Hd, He, rfl⟩ := OHv.form; replace hb := hbt2.trans (hb.mono hbt2.size); replace OHc := OHc.mono hbt2.size; replace OHv := OHv.mono hbt2.size))
  have hHc := OHc.base; have hHv := OHv.base
  clear hbt1 hbt2 hwt1 hwt2 OT OV0
  clear b_0 b_1
  clear hsB B
  replace hzz := Nat.le_trans hzz hb.size
  replace OWc := OWc.below hb; replace OWv := OWv.below hb; replace hMc := hMc.below hb; replace hMv := hMv.below hb; replace hw := hw.trans (hb.mono hw.size)
  clear hb
  go_wp2_with fail
  refine (eqCellS_same (OHc.sl flatCell) (OWc.sl flatCell)).mono ?_
  rintro e w21q ⟨rfl, hb⟩
  replace hzz := Nat.le_trans hzz hb.size
  replace OWc := OWc.below hb; replace OWv := OWv.below hb; replace OHv := OHv.below hb; replace hMc := hMc.below hb; replace hMv := hMv.below hb; replace hw := hw.trans (hb.mono hw.size)
  clear hb
  go_wp2_with fail
  refine (eqValS_same (OHv.sl flatVal) (OWv.sl flatVal)).mono ?_
  rintro e w22q ⟨rfl, hb⟩
  replace hzz := Nat.le_trans hzz hb.size
  replace OWc := OWc.below hb; replace OWv := OWv.below hb; replace OHv := OHv.below hb; replace hMc := hMc.below hb; replace hMv := hMv.below hb; replace hw := hw.trans (hb.mono hw.size)
  clear hb
  go_wp2_with fail
  refine (heldCells_c (.slice Ga (ppC x0 x1).length Gb) (ppC x0 x1).length 1 1 (1 + ((ppC x0 x1).length : Int) * 9) rfl rfl (by omega) _ hMc).mono ?_
  rintro e w24 ⟨rfl, hb⟩
  replace hzz := Nat.le_trans hzz hb.size
  replace hMv := hMv.below hb; replace hw := hw.trans (hb.mono hw.size)
  clear hb
  go_wp2_with fail
  refine (heldVals_c (.slice Gd (ppV x0 x1).length Ge) (ppV x0 x1).length (1 + (ppC x0 x1).length * 9) (1 + ((ppC x0 x1).length : Int) * 9) (1 + ((ppC x0 x1).length : Int) * 9 + (ppV x0 x1).length * 3) (by omega) rfl (by omega) _ hMv).mono ?_
  rintro e w25 ⟨rfl, hb⟩
  replace hzz := Nat.le_trans hzz hb.size
  replace hMv := hMv.below hb; replace hw := hw.trans (hb.mono hw.size)
  clear hb
  go_wp2_with fail
  go_returns
  exact ⟨rfl, hw⟩
end fnExactPoolPack
end Go.Proofs.Ytajbgkpjmgmdhaa
