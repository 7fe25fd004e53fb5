/- The law's walk: the program's CaseText and the reference's give the same, and nothing that was there is changed. Printed by gen_law.py. -/
import Derived.Test.YtigacgfaliicaaaEq
import Derived.Test.YtigacgfaliicaaaSz
import Derived.Test.YtigacgfaliicaaaTo
import Derived.Deep.RegionHeld3
import Derived.Test.YtigacgfaliicaaaCText6
namespace Go.Proofs.Ytigacgfaliicaaa
open Go.RowKit
set_option linter.unusedVariables false
set_option linter.unusedSimpArgs false
attribute [local go_sem] Ext.cell

namespace fnExactCaseText
set_option maxHeartbeats 4000000 in
theorem law (x0 : GCase) (r0 : List Value) (w : World) (hx0 : GCase.R 0 w r0 x0) :
    Calls Try.prog 3 #[.agg r0.toArray] w fun en w' => en = .returned (.bool true) ∧ Below w.heap.size w w' := by
  have Hx0 := hx0
  obtain ⟨a0_0, a0_1, a0_2, rfl, -, k0_0, k0_1, k0_2⟩ := hx0
  obtain ⟨p0_0, c0_0, rfl⟩ := k0_0.form
  obtain ⟨p0_1, c0_1, rfl⟩ := k0_1.form
  obtain ⟨p0_2, c0_2, rfl⟩ := k0_2.form
  go_enter Try.func3, Try.ntmps3
  have z0 := GCase.bulk_nonneg x0
  go_wp2_with fail
  refine (szCase_c x0 _ 0 _ (by omega) (by omega) _ (GCase.good.below Hx0 (by go_grown))).mono ?_
  rintro en w1 ⟨n1, rfl, (⟨g0, rfl⟩ | ⟨g0, rfl⟩), hb⟩
  rotate_left
  · have hw1 : Below w.heap.size w w1 := Below.trans (by go_grown) (hb.mono (by go_grown))
    go_wp2
    go_returns
    exact ⟨rfl, hw1⟩
  have hw1 : Below w.heap.size w w1 := Below.trans (by go_grown) (hb.mono (by go_grown))
  obtain ⟨hc, hf⟩ := bcell hb
  have B0 : w1.cell? ⟨w.heap.size, 0, none⟩ = some (.string x0.name) := by rw [hc _ _ (by first | (simp; done) | (simp; omega))]; simp [go_sem]
  have B1 : w1.cell? ⟨w.heap.size, 1, none⟩ = some (.slice p0_0 x0.lines.length c0_0) := by rw [hc _ _ (by first | (simp; done) | (simp; omega))]; simp [go_sem]
  have B2 : w1.cell? ⟨w.heap.size, 2, none⟩ = some (.slice p0_1 x0.inputs.length c0_1) := by rw [hc _ _ (by first | (simp; done) | (simp; omega))]; simp [go_sem]
  have B3 : w1.cell? ⟨w.heap.size, 3, none⟩ = some (.slice p0_2 x0.want.length c0_2) := by rw [hc _ _ (by first | (simp; done) | (simp; omega))]; simp [go_sem]
  clear hc hf hb
  go_wp2_with fail
  refine (toCase_c x0 _ 0 (by omega) _ (GCase.good.below Hx0 hw1)).mono ?_
  rintro en w2 ⟨t0, rfl, q0, hb⟩
  have hw2 := hw1.trans (hb.mono hw1.size)
  have B0 := cell_below hb B0
  have B1 := cell_below hb B1
  have B2 := cell_below hb B2
  have B3 := cell_below hb B3
  clear hb
  go_wp2_with fail
  refine (spec_CaseText_c x0 _ _ (by omega) _ q0).mono ?_
  rintro en w3 ⟨rfl, hb⟩
  have hw3 := hw2.trans (hb.mono hw2.size)
  have B0 := cell_below hb B0
  have B1 := cell_below hb B1
  have B2 := cell_below hb B2
  have B3 := cell_below hb B3
  clear hb q0
  go_wp2_with fail
  refine (toCase_c x0 _ 0 (by omega) _ (GCase.good.below Hx0 hw3)).mono ?_
  rintro en w4 ⟨t0, rfl, q0, hb⟩
  have hw4 := hw3.trans (hb.mono hw3.size)
  have B0 := cell_below hb B0
  have B1 := cell_below hb B1
  have B2 := cell_below hb B2
  have B3 := cell_below hb B3
  clear hb
  have Q0 := q0
  obtain ⟨v0_0, v0_1, v0_2, rfl, -, kk0_0, kk0_1, kk0_2⟩ := q0
  obtain ⟨d0_0, e0_0, rfl⟩ := kk0_0.form
  obtain ⟨d0_1, e0_1, rfl⟩ := kk0_1.form
  obtain ⟨d0_2, e0_2, rfl⟩ := kk0_2.form
  clear kk0_0 kk0_1 kk0_2
  have hsz0 := World.block_lt_of_cell? _ _ B0
  dsimp only at hsz0
  go_wp2_with fail
  obtain ⟨g0_, hg0⟩ : ∃ g, g = w4.heap.size := ⟨_, rfl⟩
  have ha0 : Below w4.heap.size w4 (w4.alloc (.cells #[.string x0.name, .slice d0_0 x0.lines.length e0_0, .slice d0_1 x0.inputs.length e0_1, .slice d0_2 x0.want.length e0_2] 28)) := by go_grown
  have B0 := cell_below ha0 B0
  have B1 := cell_below ha0 B1
  have B2 := cell_below ha0 B2
  have B3 := cell_below ha0 B3
  have B4 : (w4.alloc (.cells #[.string x0.name, .slice d0_0 x0.lines.length e0_0, .slice d0_1 x0.inputs.length e0_1, .slice d0_2 x0.want.length e0_2] 28)).cell? ⟨w4.heap.size, 0, none⟩ = some (.string x0.name) := by simp [go_sem]
  have B5 : (w4.alloc (.cells #[.string x0.name, .slice d0_0 x0.lines.length e0_0, .slice d0_1 x0.inputs.length e0_1, .slice d0_2 x0.want.length e0_2] 28)).cell? ⟨w4.heap.size, 1, none⟩ = some (.slice d0_0 x0.lines.length e0_0) := by simp [go_sem]
  have B6 : (w4.alloc (.cells #[.string x0.name, .slice d0_0 x0.lines.length e0_0, .slice d0_1 x0.inputs.length e0_1, .slice d0_2 x0.want.length e0_2] 28)).cell? ⟨w4.heap.size, 2, none⟩ = some (.slice d0_1 x0.inputs.length e0_1) := by simp [go_sem]
  have B7 : (w4.alloc (.cells #[.string x0.name, .slice d0_0 x0.lines.length e0_0, .slice d0_1 x0.inputs.length e0_1, .slice d0_2 x0.want.length e0_2] 28)).cell? ⟨w4.heap.size, 3, none⟩ = some (.slice d0_2 x0.want.length e0_2) := by simp [go_sem]
  have hw5 : Below w.heap.size w (w4.alloc (.cells #[.string x0.name, .slice d0_0 x0.lines.length e0_0, .slice d0_1 x0.inputs.length e0_1, .slice d0_2 x0.want.length e0_2] 28)) := hw4.trans (ha0.mono hw4.size)
  have Q0 := (GCase.good.below Q0 ha0)
  clear ha0
  clear hsz0
  generalize w4.alloc (.cells #[.string x0.name, .slice d0_0 x0.lines.length e0_0, .slice d0_1 x0.inputs.length e0_1, .slice d0_2 x0.want.length e0_2] 28) = w5 at *
  go_wp2_with fail
  refine (impl_CaseText_c x0 _ _ (by omega) _ Q0).mono ?_
  rintro en w6 ⟨rfl, hb⟩
  have hw6 := hw5.trans (hb.mono hw5.size)
  have B0 := cell_below hb B0
  have B1 := cell_below hb B1
  have B2 := cell_below hb B2
  have B3 := cell_below hb B3
  have B4 := cell_below hb B4
  have B5 := cell_below hb B5
  have B6 := cell_below hb B6
  have B7 := cell_below hb B7
  have Q0 := (GCase.good.below Q0 hb)
  clear hb
  go_wp2_with fail
  go_upto_region 10 with fail
  go_cut [26] (fun sx wx => sx = .bool false ∧ Below w6.heap.size w6 wx)
  case first =>
    have hK := Below.refl w6.heap.size w6
    have hWw := hw6
    go_region_held3 (fun w' => w'.cell? ⟨w.heap.size, 0, none⟩ = some (.string x0.name) ∧ w'.cell? ⟨w.heap.size, 1, none⟩ = some (.slice p0_0 x0.lines.length c0_0) ∧ w'.cell? ⟨w.heap.size, 2, none⟩ = some (.slice p0_1 x0.inputs.length c0_1) ∧ w'.cell? ⟨w.heap.size, 3, none⟩ = some (.slice p0_2 x0.want.length c0_2) ∧ w'.cell? ⟨w4.heap.size, 0, none⟩ = some (.string x0.name) ∧ w'.cell? ⟨w4.heap.size, 1, none⟩ = some (.slice d0_0 x0.lines.length e0_0) ∧ w'.cell? ⟨w4.heap.size, 2, none⟩ = some (.slice d0_1 x0.inputs.length e0_1) ∧ w'.cell? ⟨w4.heap.size, 3, none⟩ = some (.slice d0_2 x0.want.length e0_2))
      (first | go_keep | (refine ⟨cell_below hbk ?_, cell_below hbk ?_, cell_below hbk ?_, cell_below hbk ?_, cell_below hbk ?_, cell_below hbk ?_, cell_below hbk ?_, cell_below hbk ?_⟩ <;> go_keep))
      (first
        | (go_at_call 6; ((with_reducible refine (toCase_c x0 _ 0 (by omega) _ (GCase.good.below Hx0 (by go_grown))).mono ?_); rintro en we0 ⟨t0, rfl, qe0, hbk⟩; have hK : Below w6.heap.size w6 we0 := Below.trans (by go_grown) (hbk.mono (by first | (simp; done) | (have := hK.size; simp; omega) | (have := hK.size; omega))); have hWw : Below w.heap.size w we0 := hw6.trans (hK.mono hw6.size); have Qe0 := (GCase.good.below Q0 hK)))
        | (go_at_call 8; ((with_reducible refine (eqCase_c x0 x0 _ _ _ _ _ Qe0 qe0).mono ?_); rintro en wf0 ⟨rfl, hbk⟩; have hK : Below w6.heap.size w6 wf0 := Below.trans (by go_grown) (hbk.mono (by first | (simp; done) | (have := hK.size; simp; omega) | (have := hK.size; omega))); have hWw : Below w.heap.size w wf0 := hw6.trans (hK.mono hw6.size))))
    all_goals go_wp2_with fail
    all_goals go_meet
    all_goals exact ⟨by first | rfl | (simp; done), hK⟩
  obtain ⟨rfl, hb⟩ := hcut
  obtain ⟨w7, rfl⟩ : ∃ W, W = wc := ⟨_, rfl⟩
  have hw7 := hw6.trans (hb.mono hw6.size)
  have B0 := cell_below hb B0
  have B1 := cell_below hb B1
  have B2 := cell_below hb B2
  have B3 := cell_below hb B3
  have B4 := cell_below hb B4
  have B5 := cell_below hb B5
  have B6 := cell_below hb B6
  have B7 := cell_below hb B7
  clear hb
  go_wp2
  go_returns
  exact ⟨rfl, hw7⟩
end fnExactCaseText
end Go.Proofs.Ytigacgfaliicaaa
