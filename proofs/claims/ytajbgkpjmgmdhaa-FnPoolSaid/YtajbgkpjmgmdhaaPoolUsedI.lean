/- impl.PoolUsed. PoolUsed. -/
import Derived.Test.YtajbgkpjmgmdhaaPoolOk2
namespace Go.Proofs.Ytajbgkpjmgmdhaa
open Go.RowKit
set_option linter.unusedVariables false
set_option linter.unusedSimpArgs false
attribute [local go_sem] Ext.cell

noncomputable def poolUsed (p : GPool) : Int := if poolOk p then (p.cells.length : Int) - p.free.length else -1

set_option maxHeartbeats 1000000 in
theorem impl_PoolUsed_c (p : GPool) (r : List Value) (lo : Nat) (hbulk : p.bulk ≤ 1048576) (w : World) (hp : GPool.R lo w r p) :
    Calls Try.prog 12 #[.agg r.toArray] w fun e w' => e = .returned (.int .i64 (poolUsed p)) ∧ Below w.heap.size w w' := by
  have c1 := fun W (hW : Below w.heap.size w W) => impl_PoolOk_c p r lo hbulk W (GPool.good.below hp hW)
  obtain ⟨u0, u1, rfl, -, a0, a1⟩ := hp
  obtain ⟨pa, pc, rfl⟩ := a0.form
  obtain ⟨qa, qc, rfl⟩ := a1.form
  have n0 := length_le_bulkS (f := GCell.bulk) GCell.bulk_nonneg p.cells
  have n1 := length_nonneg p.free
  have n2 := bulkS_nonneg (f := GCell.bulk) GCell.bulk_nonneg p.cells
  simp only [GPool.bulk] at hbulk
  have m0 : p.cells.length ≤ 1048576 := by omega
  have m1 : p.free.length ≤ 1048576 := by omega
  clear n0 n1 n2 hbulk
  generalize h1 : poolOk p = k1 at *
  replace h1 := Lib.hid h1; replace c1 := Lib.hid c1
  clear a0 a1
  go_enter Try.func12, Try.ntmps12
  go_upto_region 1 with fail
  have B : RowAt (w.alloc (.cells #[.slice pa p.cells.length pc, .slice qa p.free.length qc] 26)) (w.heap.size) 0 [.slice pa p.cells.length pc, .slice qa p.free.length qc] := RowAt.box w #[.slice pa p.cells.length pc, .slice qa p.free.length qc] 26
  have hw : Below w.heap.size w (w.alloc (.cells #[.slice pa p.cells.length pc, .slice qa p.free.length qc] 26)) := by go_grown
  generalize (w.alloc (.cells #[.slice pa p.cells.length pc, .slice qa p.free.length qc] 26)) = w0 at *
  obtain ⟨b_0, b_1⟩ := B.box2; have hsB := World.block_lt_of_cell? _ _ b_0; dsimp only at hsB
  cases k1
  all_goals go_wp2_with (go_at_call 11; ((with_reducible refine (c1.out _ hw).mono ?_); rintro e w1 ⟨rfl, hb⟩; have hw := hw.trans (hb.mono hw.size); have B := B.below hb; obtain ⟨b_0, b_1⟩ := B.box2; have hsB := World.block_lt_of_cell? _ _ b_0; dsimp only at hsB; clear hb))
  all_goals (go_returns; refine ⟨?_, by first | assumption | go_grown⟩; (try clear hc hf); replace h1 := h1.out; first | rfl | (simp_all [poolUsed]; done) | (simp_all [poolUsed] <;> (first | omega | grind)))

end Go.Proofs.Ytajbgkpjmgmdhaa
