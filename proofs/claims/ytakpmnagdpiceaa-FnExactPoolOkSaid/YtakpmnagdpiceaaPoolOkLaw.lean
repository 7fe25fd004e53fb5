/- The law's walk: the program's PoolOk and the reference's give the same, and nothing that was there is changed. Printed by gen_law.py. -/
import Derived.Test.YtakpmnagdpiceaaEq
import Derived.Test.YtakpmnagdpiceaaSz
import Derived.Test.YtakpmnagdpiceaaTo
import Derived.Deep.RegionHeld3
import Derived.Test.YtakpmnagdpiceaaPoolOk2
namespace Go.Proofs.Ytakpmnagdpiceaa
open Go.RowKit
set_option linter.unusedVariables false
set_option linter.unusedSimpArgs false
attribute [local go_sem] Ext.cell

namespace fnExactPoolOk
set_option maxHeartbeats 4000000 in
theorem law (x0 : GPool) (r0 : List Value) (w : World) (hx0 : GPool.R 0 w r0 x0) :
    Calls Try.prog 6 #[.agg r0.toArray] w fun en w' => en = .returned (.bool true) ∧ Below w.heap.size w w' := by
  have Hx0 := hx0
  obtain ⟨a0_0, a0_1, rfl, -, k0_0, k0_1⟩ := hx0
  obtain ⟨p0_0, c0_0, rfl⟩ := k0_0.form
  obtain ⟨p0_1, c0_1, rfl⟩ := k0_1.form
  go_enter Try.func6, Try.ntmps6
  have z0 := GPool.bulk_nonneg x0
  go_wp2_with fail
  refine (szPool_c x0 _ 0 _ (by omega) (by omega) _ (GPool.good.below Hx0 (by go_grown))).mono ?_
  rintro en w1 ⟨n1, rfl, (⟨g0, rfl⟩ | ⟨g0, rfl⟩), hb⟩
  rotate_left
  · have hw1 : Below w.heap.size w w1 := Below.trans (by go_grown) (hb.mono (by go_grown))
    go_wp2
    go_returns
    exact ⟨rfl, hw1⟩
  have hw1 : Below w.heap.size w w1 := Below.trans (by go_grown) (hb.mono (by go_grown))
  obtain ⟨hc, hf⟩ := bcell hb
  have B0 : w1.cell? ⟨w.heap.size, 0, none⟩ = some (.slice p0_0 x0.cells.length c0_0) := by rw [hc _ _ (by simp)]; simp [go_sem]
  have B1 : w1.cell? ⟨w.heap.size, 1, none⟩ = some (.slice p0_1 x0.free.length c0_1) := by rw [hc _ _ (by simp)]; simp [go_sem]
  clear hc hf hb
  go_wp2_with fail
  refine (toPool_c x0 _ 0 (by omega) _ (GPool.good.below Hx0 hw1)).mono ?_
  rintro en w2 ⟨t0, rfl, q0, hb⟩
  have hw2 := hw1.trans (hb.mono hw1.size)
  have B0 := cell_below hb B0
  have B1 := cell_below hb B1
  clear hb
  go_wp2_with fail
  refine (spec_PoolOk_c x0 _ _ (by omega) _ q0).mono ?_
  rintro en w3 ⟨rfl, hb⟩
  have hw3 := hw2.trans (hb.mono hw2.size)
  have B0 := cell_below hb B0
  have B1 := cell_below hb B1
  clear hb q0
  go_wp2_with fail
  refine (toPool_c x0 _ 0 (by omega) _ (GPool.good.below Hx0 hw3)).mono ?_
  rintro en w4 ⟨t0, rfl, q0, hb⟩
  have hw4 := hw3.trans (hb.mono hw3.size)
  have B0 := cell_below hb B0
  have B1 := cell_below hb B1
  clear hb
  have Q0 := q0
  obtain ⟨v0_0, v0_1, rfl, -, kk0_0, kk0_1⟩ := q0
  obtain ⟨d0_0, e0_0, rfl⟩ := kk0_0.form
  obtain ⟨d0_1, e0_1, rfl⟩ := kk0_1.form
  clear kk0_0 kk0_1
  go_wp2_with fail
  obtain ⟨g0_, hg0⟩ : ∃ g, g = w4.heap.size := ⟨_, rfl⟩
  have ha0 : Below w4.heap.size w4 (w4.alloc (.cells #[.slice d0_0 x0.cells.length e0_0, .slice d0_1 x0.free.length e0_1] 38)) := by go_grown
  have B0 := cell_below ha0 B0
  have B1 := cell_below ha0 B1
  have B2 : (w4.alloc (.cells #[.slice d0_0 x0.cells.length e0_0, .slice d0_1 x0.free.length e0_1] 38)).cell? ⟨w4.heap.size, 0, none⟩ = some (.slice d0_0 x0.cells.length e0_0) := by simp [go_sem]
  have B3 : (w4.alloc (.cells #[.slice d0_0 x0.cells.length e0_0, .slice d0_1 x0.free.length e0_1] 38)).cell? ⟨w4.heap.size, 1, none⟩ = some (.slice d0_1 x0.free.length e0_1) := by simp [go_sem]
  have hw5 : Below w.heap.size w (w4.alloc (.cells #[.slice d0_0 x0.cells.length e0_0, .slice d0_1 x0.free.length e0_1] 38)) := hw4.trans (ha0.mono hw4.size)
  have Q0 := (GPool.good.below Q0 ha0)
  clear ha0
  generalize w4.alloc (.cells #[.slice d0_0 x0.cells.length e0_0, .slice d0_1 x0.free.length e0_1] 38) = w5 at *
  go_wp2_with fail
  refine (impl_PoolOk_c x0 _ _ (by omega) _ Q0).mono ?_
  rintro en w6 ⟨rfl, hb⟩
  have hw6 := hw5.trans (hb.mono hw5.size)
  have B0 := cell_below hb B0
  have B1 := cell_below hb B1
  have B2 := cell_below hb B2
  have B3 := cell_below hb B3
  have Q0 := (GPool.good.below Q0 hb)
  clear hb
  go_wp2_with fail
  generalize hB : w.heap.size = B at *
  go_region_held3 (fun w' => w'.cell? ⟨B, 0, none⟩ = some (.slice p0_0 x0.cells.length c0_0) ∧ w'.cell? ⟨B, 1, none⟩ = some (.slice p0_1 x0.free.length c0_1) ∧ w'.cell? ⟨w4.heap.size, 0, none⟩ = some (.slice d0_0 x0.cells.length e0_0) ∧ w'.cell? ⟨w4.heap.size, 1, none⟩ = some (.slice d0_1 x0.free.length e0_1))
    (first | go_keep | (refine ⟨cell_below hbk ?_, cell_below hbk ?_, cell_below hbk ?_, cell_below hbk ?_⟩ <;> go_keep))
    (first
      | (go_at_call 26; refine (toPool_c x0 _ 0 (by omega) _ (GPool.good.below Hx0 (by rw [hB]; go_grown))).mono ?_; rintro en w7 ⟨t0, rfl, q0, hbk⟩; have hw7 : Below B w w7 := Below.trans (by go_grown) (hbk.mono (by have := hw6.size; simp; omega)); have Q0_ := (GPool.good.below Q0 (Below.trans (by go_grown) hbk)))
      | (go_at_call 21; refine (eqPool_c x0 x0 _ _ _ _ _ Q0_ q0).mono ?_; rintro en w8 ⟨rfl, hbk⟩; have hw8 : Below B w w8 := hw7.trans (hbk.mono (by have := hw7.size; omega))))
  go_wp2
  go_returns
  exact ⟨rfl, by rw [hB]; exact hw8⟩
end fnExactPoolOk
end Go.Proofs.Ytakpmnagdpiceaa
