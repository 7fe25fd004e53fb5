/- The law's walk: the program's DataLess and the reference's give the same, and nothing that was there is changed. Printed by gen_law.py. -/
import Derived.Test.YtpdpcicccjiheaaEq
import Derived.Test.YtpdpcicccjiheaaSz
import Derived.Test.YtpdpcicccjiheaaTo
import Derived.Deep.RegionHeld3
import Derived.Test.YtpdpcicccjiheaaLess2
namespace Go.Proofs.Ytpdpcicccjiheaa
open Go.RowKit
set_option linter.unusedVariables false
set_option linter.unusedSimpArgs false
attribute [local go_sem] Ext.cell

namespace fnExactDataLess
set_option maxHeartbeats 4000000 in
theorem law (x0 : GData) (r0 : List Value) (x1 : GData) (r1 : List Value) (w : World) (hx0 : GData.R 0 w r0 x0) (hx1 : GData.R 0 w r1 x1) :
    Calls Try.prog 3 #[.agg r0.toArray, .agg r1.toArray] w fun en w' => en = .returned (.bool true) ∧ Below w.heap.size w w' := by
  have Hx0 := hx0
  obtain ⟨a0_0, rfl, -, k0_0⟩ := hx0
  obtain ⟨p0_0, c0_0, rfl⟩ := k0_0.form
  have Hx1 := hx1
  obtain ⟨a1_0, rfl, -, k1_0⟩ := hx1
  obtain ⟨p1_0, c1_0, rfl⟩ := k1_0.form
  go_enter Try.func3, Try.ntmps3
  have z0 := GData.bulk_nonneg x0
  go_wp2_with fail
  refine (szData_c x0 _ 0 _ (by omega) (by omega) _ (GData.good.below Hx0 (by go_grown))).mono ?_
  rintro en w1 ⟨n1, rfl, (⟨g0, rfl⟩ | ⟨g0, rfl⟩), hb⟩
  rotate_left
  · have hw1 : Below w.heap.size w w1 := Below.trans (by go_grown) (hb.mono (by go_grown))
    go_wp2
    go_returns
    exact ⟨rfl, hw1⟩
  have hw1 : Below w.heap.size w w1 := Below.trans (by go_grown) (hb.mono (by go_grown))
  obtain ⟨hc, hf⟩ := bcell hb
  have B0 : w1.cell? ⟨w.heap.size, 0, none⟩ = some (.slice p0_0 x0.nodes.length c0_0) := by rw [hc _ _ (by first | (simp; done) | (simp; omega))]; simp [go_sem]
  have B1 : w1.cell? ⟨w.heap.size + 1, 0, none⟩ = some (.slice p1_0 x1.nodes.length c1_0) := by rw [hc _ _ (by first | (simp; done) | (simp; omega))]; simp [go_sem]
  clear hc hf hb
  have z1 := GData.bulk_nonneg x1
  go_wp2_with fail
  refine (szData_c x1 _ 0 _ (by omega) (by omega) _ (GData.good.below Hx1 hw1)).mono ?_
  rintro en w2 ⟨n1, rfl, (⟨g1, rfl⟩ | ⟨g1, rfl⟩), hb⟩
  rotate_left
  · have hw2 : Below w.heap.size w w2 := hw1.trans (hb.mono hw1.size)
    go_wp2
    go_returns
    exact ⟨rfl, hw2⟩
  have hw2 : Below w.heap.size w w2 := hw1.trans (hb.mono hw1.size)
  have B0 := cell_below hb B0
  have B1 := cell_below hb B1
  clear hb
  go_upto_region 8 with fail
  go_cut [6] (fun sx wx => sx = .bool (dataLess x0 x1) ∧ Below w2.heap.size w2 wx)
  case first =>
    have hK := Below.refl w2.heap.size w2
    have hWw := hw2
    go_region_held3 (fun w' => w'.cell? ⟨w.heap.size, 0, none⟩ = some (.slice p0_0 x0.nodes.length c0_0) ∧ w'.cell? ⟨w.heap.size + 1, 0, none⟩ = some (.slice p1_0 x1.nodes.length c1_0))
      (first | go_keep | (refine ⟨cell_below hbk ?_, cell_below hbk ?_⟩ <;> go_keep))
      (first
        | (go_at_call 9; ((with_reducible refine (toData_c x0 _ 0 (by omega) _ (GData.good.below Hx0 (by go_grown))).mono ?_); rintro en ws0 ⟨t0, rfl, qs0, hbk⟩; have hK : Below w2.heap.size w2 ws0 := Below.trans (by go_grown) (hbk.mono (by first | (simp; done) | (have := hK.size; simp; omega) | (have := hK.size; omega))); have hWw : Below w.heap.size w ws0 := hw2.trans (hK.mono hw2.size); (try (have qs1 := (GData.good.below qs1 hbk)))))
        | (go_at_call 9; ((with_reducible refine (toData_c x1 _ 0 (by omega) _ (GData.good.below Hx1 (by go_grown))).mono ?_); rintro en ws1 ⟨t1, rfl, qs1, hbk⟩; have hK : Below w2.heap.size w2 ws1 := Below.trans (by go_grown) (hbk.mono (by first | (simp; done) | (have := hK.size; simp; omega) | (have := hK.size; omega))); have hWw : Below w.heap.size w ws1 := hw2.trans (hK.mono hw2.size); (try (have qs0 := (GData.good.below qs0 hbk)))))
        | (go_at_call 8; ((with_reducible refine (spec_DataLess_c x0 _ _ x1 _ _ (by omega) (by omega) _ qs0 qs1).mono ?_); rintro en wsp ⟨rfl, hbk⟩; have hK : Below w2.heap.size w2 wsp := Below.trans (by go_grown) (hbk.mono (by first | (simp; done) | (have := hK.size; simp; omega) | (have := hK.size; omega))); have hWw : Below w.heap.size w wsp := hw2.trans (hK.mono hw2.size))))
    all_goals go_wp2_with fail
    all_goals go_meet
    all_goals exact ⟨by first | rfl | (simp; done), hK⟩
  obtain ⟨rfl, hb⟩ := hcut
  obtain ⟨w3, rfl⟩ : ∃ W, W = wc := ⟨_, rfl⟩
  have hw3 := hw2.trans (hb.mono hw2.size)
  have B0 := cell_below hb B0
  have B1 := cell_below hb B1
  clear hb
  go_wp2_with fail
  refine (toData_c x0 _ 0 (by omega) _ (GData.good.below Hx0 hw3)).mono ?_
  rintro en w4 ⟨t0, rfl, q0, hb⟩
  have hw4 := hw3.trans (hb.mono hw3.size)
  have B0 := cell_below hb B0
  have B1 := cell_below hb B1
  clear hb
  have Q0 := q0
  obtain ⟨v0_0, rfl, -, kk0_0⟩ := q0
  obtain ⟨d0_0, e0_0, rfl⟩ := kk0_0.form
  clear kk0_0
  have hsz0 := World.block_lt_of_cell? _ _ B0
  dsimp only at hsz0
  have hsz1 := World.block_lt_of_cell? _ _ B1
  dsimp only at hsz1
  go_wp2_with fail
  obtain ⟨g0_, hg0⟩ : ∃ g, g = w4.heap.size := ⟨_, rfl⟩
  have ha0 : Below w4.heap.size w4 (w4.alloc (.cells #[.slice d0_0 x0.nodes.length e0_0] 29)) := by go_grown
  have B0 := cell_below ha0 B0
  have B1 := cell_below ha0 B1
  have B2 : (w4.alloc (.cells #[.slice d0_0 x0.nodes.length e0_0] 29)).cell? ⟨w4.heap.size, 0, none⟩ = some (.slice d0_0 x0.nodes.length e0_0) := by simp [go_sem]
  have hw5 : Below w.heap.size w (w4.alloc (.cells #[.slice d0_0 x0.nodes.length e0_0] 29)) := hw4.trans (ha0.mono hw4.size)
  have Q0 := (GData.good.below Q0 ha0)
  clear ha0
  clear hsz0
  clear hsz1
  generalize w4.alloc (.cells #[.slice d0_0 x0.nodes.length e0_0] 29) = w5 at *
  go_wp2_with fail
  refine (toData_c x1 _ 0 (by omega) _ (GData.good.below Hx1 hw5)).mono ?_
  rintro en w6 ⟨t1, rfl, q1, hb⟩
  have hw6 := hw5.trans (hb.mono hw5.size)
  have B0 := cell_below hb B0
  have B1 := cell_below hb B1
  have B2 := cell_below hb B2
  have Q0 := (GData.good.below Q0 hb)
  clear hb
  have Q1 := q1
  obtain ⟨v1_0, rfl, -, kk1_0⟩ := q1
  obtain ⟨d1_0, e1_0, rfl⟩ := kk1_0.form
  clear kk1_0
  have hsz0 := World.block_lt_of_cell? _ _ B0
  dsimp only at hsz0
  have hsz1 := World.block_lt_of_cell? _ _ B1
  dsimp only at hsz1
  have hsz2 := World.block_lt_of_cell? _ _ B2
  dsimp only at hsz2
  go_wp2_with fail
  obtain ⟨g1_, hg1⟩ : ∃ g, g = w6.heap.size := ⟨_, rfl⟩
  have ha1 : Below w6.heap.size w6 (w6.alloc (.cells #[.slice d1_0 x1.nodes.length e1_0] 29)) := by go_grown
  have B0 := cell_below ha1 B0
  have B1 := cell_below ha1 B1
  have B2 := cell_below ha1 B2
  have B3 : (w6.alloc (.cells #[.slice d1_0 x1.nodes.length e1_0] 29)).cell? ⟨w6.heap.size, 0, none⟩ = some (.slice d1_0 x1.nodes.length e1_0) := by simp [go_sem]
  have hw7 : Below w.heap.size w (w6.alloc (.cells #[.slice d1_0 x1.nodes.length e1_0] 29)) := hw6.trans (ha1.mono hw6.size)
  have Q0 := (GData.good.below Q0 ha1)
  have Q1 := (GData.good.below Q1 ha1)
  clear ha1
  clear hsz0
  clear hsz1
  clear hsz2
  generalize w6.alloc (.cells #[.slice d1_0 x1.nodes.length e1_0] 29) = w7 at *
  go_wp2_with fail
  refine (impl_DataLess_c x0 _ _ x1 _ _ (by omega) (by omega) _ Q0 Q1).mono ?_
  rintro en w8 ⟨rfl, hb⟩
  have hw8 := hw7.trans (hb.mono hw7.size)
  have B0 := cell_below hb B0
  have B1 := cell_below hb B1
  have B2 := cell_below hb B2
  have B3 := cell_below hb B3
  have Q0 := (GData.good.below Q0 hb)
  have Q1 := (GData.good.below Q1 hb)
  clear hb
  go_wp2_with fail
  go_upto_region 14 with fail
  go_cut [39] (fun sx wx => sx = .bool false ∧ Below w8.heap.size w8 wx)
  case first =>
    have hK := Below.refl w8.heap.size w8
    have hWw := hw8
    go_region_held3 (fun w' => w'.cell? ⟨w.heap.size, 0, none⟩ = some (.slice p0_0 x0.nodes.length c0_0) ∧ w'.cell? ⟨w.heap.size + 1, 0, none⟩ = some (.slice p1_0 x1.nodes.length c1_0) ∧ w'.cell? ⟨w4.heap.size, 0, none⟩ = some (.slice d0_0 x0.nodes.length e0_0) ∧ w'.cell? ⟨w6.heap.size, 0, none⟩ = some (.slice d1_0 x1.nodes.length e1_0))
      (first | go_keep | (refine ⟨cell_below hbk ?_, cell_below hbk ?_, cell_below hbk ?_, cell_below hbk ?_⟩ <;> go_keep))
      (first
        | (go_at_call 9; ((with_reducible refine (toData_c x0 _ 0 (by omega) _ (GData.good.below Hx0 (by go_grown))).mono ?_); rintro en we0 ⟨t0, rfl, qe0, hbk⟩; have hK : Below w8.heap.size w8 we0 := Below.trans (by go_grown) (hbk.mono (by first | (simp; done) | (have := hK.size; simp; omega) | (have := hK.size; omega))); have hWw : Below w.heap.size w we0 := hw8.trans (hK.mono hw8.size); have Qe0 := (GData.good.below Q0 hK)))
        | (go_at_call 11; ((with_reducible refine (eqData_c x0 x0 _ _ _ _ _ Qe0 qe0).mono ?_); rintro en wf0 ⟨rfl, hbk⟩; have hK : Below w8.heap.size w8 wf0 := Below.trans (by go_grown) (hbk.mono (by first | (simp; done) | (have := hK.size; simp; omega) | (have := hK.size; omega))); have hWw : Below w.heap.size w wf0 := hw8.trans (hK.mono hw8.size))))
    all_goals go_wp2_with fail
    all_goals go_meet
    all_goals exact ⟨by first | rfl | (simp; done), hK⟩
  obtain ⟨rfl, hb⟩ := hcut
  obtain ⟨w9, rfl⟩ : ∃ W, W = wc := ⟨_, rfl⟩
  have hw9 := hw8.trans (hb.mono hw8.size)
  have B0 := cell_below hb B0
  have B1 := cell_below hb B1
  have B2 := cell_below hb B2
  have B3 := cell_below hb B3
  have Q1 := (GData.good.below Q1 hb)
  clear hb
  go_wp2_with fail
  go_upto_region 16 with fail
  go_cut [44] (fun sx wx => sx = .bool false ∧ Below w9.heap.size w9 wx)
  case first =>
    have hK := Below.refl w9.heap.size w9
    have hWw := hw9
    go_region_held3 (fun w' => w'.cell? ⟨w.heap.size, 0, none⟩ = some (.slice p0_0 x0.nodes.length c0_0) ∧ w'.cell? ⟨w.heap.size + 1, 0, none⟩ = some (.slice p1_0 x1.nodes.length c1_0) ∧ w'.cell? ⟨w4.heap.size, 0, none⟩ = some (.slice d0_0 x0.nodes.length e0_0) ∧ w'.cell? ⟨w6.heap.size, 0, none⟩ = some (.slice d1_0 x1.nodes.length e1_0))
      (first | go_keep | (refine ⟨cell_below hbk ?_, cell_below hbk ?_, cell_below hbk ?_, cell_below hbk ?_⟩ <;> go_keep))
      (first
        | (go_at_call 9; ((with_reducible refine (toData_c x1 _ 0 (by omega) _ (GData.good.below Hx1 (by go_grown))).mono ?_); rintro en we1 ⟨t1, rfl, qe1, hbk⟩; have hK : Below w9.heap.size w9 we1 := Below.trans (by go_grown) (hbk.mono (by first | (simp; done) | (have := hK.size; simp; omega) | (have := hK.size; omega))); have hWw : Below w.heap.size w we1 := hw9.trans (hK.mono hw9.size); have Qe1 := (GData.good.below Q1 hK)))
        | (go_at_call 11; ((with_reducible refine (eqData_c x1 x1 _ _ _ _ _ Qe1 qe1).mono ?_); rintro en wf1 ⟨rfl, hbk⟩; have hK : Below w9.heap.size w9 wf1 := Below.trans (by go_grown) (hbk.mono (by first | (simp; done) | (have := hK.size; simp; omega) | (have := hK.size; omega))); have hWw : Below w.heap.size w wf1 := hw9.trans (hK.mono hw9.size))))
    all_goals go_wp2_with fail
    all_goals go_meet
    all_goals exact ⟨by first | rfl | (simp; done), hK⟩
  obtain ⟨rfl, hb⟩ := hcut
  obtain ⟨w10, rfl⟩ : ∃ W, W = wc := ⟨_, rfl⟩
  have hw10 := hw9.trans (hb.mono hw9.size)
  have B0 := cell_below hb B0
  have B1 := cell_below hb B1
  have B2 := cell_below hb B2
  have B3 := cell_below hb B3
  clear hb
  go_wp2
  go_returns
  exact ⟨rfl, hw10⟩
end fnExactDataLess
end Go.Proofs.Ytpdpcicccjiheaa
