/- Parts of the proof, merged: SameCodeLaw, Open. -/
import Derived.Deep.RegionHeld3
import Derived.Deep.Slices
import Derived.OpenShut
import Derived.Test.YtklfepnokidnaaaSc37
/- The law's walk: the program's SameCode and the reference's give the same, and nothing that was there is changed. Printed by gen_law.py. -/
namespace Go.Proofs.Ytklfepnokidnaaa
open Go.RowKit
set_option linter.unusedVariables false
set_option linter.unusedSimpArgs false
attribute [local go_sem] Ext.cell

namespace fnExactSameCode
set_option maxHeartbeats 4000000 in
theorem law (x0 : GCode) (r0 : List Value) (x1 : GCode) (r1 : List Value) (w : World) (hx0 : GCode.R 0 w r0 x0) (hx1 : GCode.R 0 w r1 x1) :
    Calls Try.prog 3 #[.agg r0.toArray, .agg r1.toArray] w fun en w' => en = .returned (.bool true) ∧ Below w.heap.size w w' := by
  have Hx0 := hx0
  obtain ⟨a0_0, a0_1, rfl, -, k0_0, k0_1⟩ := hx0
  obtain ⟨p0_0, c0_0, rfl⟩ := k0_0.form
  obtain ⟨p0_1, c0_1, rfl⟩ := k0_1.form
  have Hx1 := hx1
  obtain ⟨a1_0, a1_1, rfl, -, k1_0, k1_1⟩ := hx1
  obtain ⟨p1_0, c1_0, rfl⟩ := k1_0.form
  obtain ⟨p1_1, c1_1, rfl⟩ := k1_1.form
  go_enter Try.func3, Try.ntmps3
  have z0 := GCode.bulk_nonneg x0
  go_wp2_with fail
  refine (szCode_c x0 _ 0 _ (by omega) (by omega) _ (GCode.good.below Hx0 (by go_grown))).mono ?_
  rintro en w1 ⟨n1, rfl, (⟨g0, rfl⟩ | ⟨g0, rfl⟩), hb⟩
  rotate_left
  · have hw1 : Below w.heap.size w w1 := Below.trans (by go_grown) (hb.mono (by go_grown))
    go_wp2
    go_returns
    exact ⟨rfl, hw1⟩
  have hw1 : Below w.heap.size w w1 := Below.trans (by go_grown) (hb.mono (by go_grown))
  obtain ⟨hc, hf⟩ := bcell hb
  have B0 : w1.cell? ⟨w.heap.size, 0, none⟩ = some (.slice p0_0 x0.ins.length c0_0) := by rw [hc _ _ (by first | (simp; done) | (simp; omega))]; simp [go_sem]
  have B1 : w1.cell? ⟨w.heap.size, 1, none⟩ = some (.slice p0_1 x0.pats.length c0_1) := by rw [hc _ _ (by first | (simp; done) | (simp; omega))]; simp [go_sem]
  have B2 : w1.cell? ⟨w.heap.size + 1, 0, none⟩ = some (.slice p1_0 x1.ins.length c1_0) := by rw [hc _ _ (by first | (simp; done) | (simp; omega))]; simp [go_sem]
  have B3 : w1.cell? ⟨w.heap.size + 1, 1, none⟩ = some (.slice p1_1 x1.pats.length c1_1) := by rw [hc _ _ (by first | (simp; done) | (simp; omega))]; simp [go_sem]
  clear hc hf hb
  have z1 := GCode.bulk_nonneg x1
  go_wp2_with fail
  refine (szCode_c x1 _ 0 _ (by omega) (by omega) _ (GCode.good.below Hx1 hw1)).mono ?_
  rintro en w2 ⟨n1, rfl, (⟨g1, rfl⟩ | ⟨g1, rfl⟩), hb⟩
  rotate_left
  · have hw2 : Below w.heap.size w w2 := hw1.trans (hb.mono hw1.size)
    go_wp2
    go_returns
    exact ⟨rfl, hw2⟩
  have hw2 : Below w.heap.size w w2 := hw1.trans (hb.mono hw1.size)
  have B0 := cell_below hb B0
  have B1 := cell_below hb B1
  have B2 := cell_below hb B2
  have B3 := cell_below hb B3
  clear hb
  go_upto_region 8 with fail
  go_cut [6] (fun sx wx => sx = .bool (sameP x0 x1) ∧ Below w2.heap.size w2 wx)
  case first =>
    have hK := Below.refl w2.heap.size w2
    have hWw := hw2
    go_region_held3 (fun w' => w'.cell? ⟨w.heap.size, 0, none⟩ = some (.slice p0_0 x0.ins.length c0_0) ∧ w'.cell? ⟨w.heap.size, 1, none⟩ = some (.slice p0_1 x0.pats.length c0_1) ∧ w'.cell? ⟨w.heap.size + 1, 0, none⟩ = some (.slice p1_0 x1.ins.length c1_0) ∧ w'.cell? ⟨w.heap.size + 1, 1, none⟩ = some (.slice p1_1 x1.pats.length c1_1))
      (first | go_keep | (refine ⟨cell_below hbk ?_, cell_below hbk ?_, cell_below hbk ?_, cell_below hbk ?_⟩ <;> go_keep))
      (first
        | (go_at_call 6; ((with_reducible refine (toCode_c x0 _ 0 (by omega) _ (GCode.good.below Hx0 (by go_grown))).mono ?_); rintro en ws0 ⟨t0, rfl, qs0, hbk⟩; have hK : Below w2.heap.size w2 ws0 := Below.trans (by go_grown) (hbk.mono (by first | (simp; done) | (have := hK.size; simp; omega) | (have := hK.size; omega))); have hWw : Below w.heap.size w ws0 := hw2.trans (hK.mono hw2.size); (try (have qs1 := (GCode.good.below qs1 hbk)))))
        | (go_at_call 6; ((with_reducible refine (toCode_c x1 _ 0 (by omega) _ (GCode.good.below Hx1 (by go_grown))).mono ?_); rintro en ws1 ⟨t1, rfl, qs1, hbk⟩; have hK : Below w2.heap.size w2 ws1 := Below.trans (by go_grown) (hbk.mono (by first | (simp; done) | (have := hK.size; simp; omega) | (have := hK.size; omega))); have hWw : Below w.heap.size w ws1 := hw2.trans (hK.mono hw2.size); (try (have qs0 := (GCode.good.below qs0 hbk)))))
        | (go_at_call 5; ((with_reducible refine (spec_SameCode_c x0 _ _ x1 _ _ (by omega) (by omega) _ qs0 qs1).mono ?_); rintro en wsp ⟨rfl, hbk⟩; have hK : Below w2.heap.size w2 wsp := Below.trans (by go_grown) (hbk.mono (by first | (simp; done) | (have := hK.size; simp; omega) | (have := hK.size; omega))); have hWw : Below w.heap.size w wsp := hw2.trans (hK.mono hw2.size))))
    all_goals go_wp2_with fail
    all_goals go_meet
    all_goals exact ⟨by first | rfl | (simp; done), hK⟩
  obtain ⟨rfl, hb⟩ := hcut
  obtain ⟨w3, rfl⟩ : ∃ W, W = wc := ⟨_, rfl⟩
  have hw3 := hw2.trans (hb.mono hw2.size)
  have B0 := cell_below hb B0
  have B1 := cell_below hb B1
  have B2 := cell_below hb B2
  have B3 := cell_below hb B3
  clear hb
  go_wp2_with fail
  refine (toCode_c x0 _ 0 (by omega) _ (GCode.good.below Hx0 hw3)).mono ?_
  rintro en w4 ⟨t0, rfl, q0, hb⟩
  have hw4 := hw3.trans (hb.mono hw3.size)
  have B0 := cell_below hb B0
  have B1 := cell_below hb B1
  have B2 := cell_below hb B2
  have B3 := cell_below hb B3
  clear hb
  have Q0 := q0
  obtain ⟨v0_0, v0_1, rfl, -, kk0_0, kk0_1⟩ := q0
  obtain ⟨d0_0, e0_0, rfl⟩ := kk0_0.form
  obtain ⟨d0_1, e0_1, rfl⟩ := kk0_1.form
  clear kk0_0 kk0_1
  have hsz0 := World.block_lt_of_cell? _ _ B0
  dsimp only at hsz0
  have hsz2 := World.block_lt_of_cell? _ _ B2
  dsimp only at hsz2
  go_wp2_with fail
  obtain ⟨g0_, hg0⟩ : ∃ g, g = w4.heap.size := ⟨_, rfl⟩
  have ha0 : Below w4.heap.size w4 (w4.alloc (.cells #[.slice d0_0 x0.ins.length e0_0, .slice d0_1 x0.pats.length e0_1] 31)) := by go_grown
  have B0 := cell_below ha0 B0
  have B1 := cell_below ha0 B1
  have B2 := cell_below ha0 B2
  have B3 := cell_below ha0 B3
  have B4 : (w4.alloc (.cells #[.slice d0_0 x0.ins.length e0_0, .slice d0_1 x0.pats.length e0_1] 31)).cell? ⟨w4.heap.size, 0, none⟩ = some (.slice d0_0 x0.ins.length e0_0) := by simp [go_sem]
  have B5 : (w4.alloc (.cells #[.slice d0_0 x0.ins.length e0_0, .slice d0_1 x0.pats.length e0_1] 31)).cell? ⟨w4.heap.size, 1, none⟩ = some (.slice d0_1 x0.pats.length e0_1) := by simp [go_sem]
  have hw5 : Below w.heap.size w (w4.alloc (.cells #[.slice d0_0 x0.ins.length e0_0, .slice d0_1 x0.pats.length e0_1] 31)) := hw4.trans (ha0.mono hw4.size)
  have Q0 := (GCode.good.below Q0 ha0)
  clear ha0
  clear hsz0
  clear hsz2
  generalize w4.alloc (.cells #[.slice d0_0 x0.ins.length e0_0, .slice d0_1 x0.pats.length e0_1] 31) = w5 at *
  go_wp2_with fail
  refine (toCode_c x1 _ 0 (by omega) _ (GCode.good.below Hx1 hw5)).mono ?_
  rintro en w6 ⟨t1, rfl, q1, hb⟩
  have hw6 := hw5.trans (hb.mono hw5.size)
  have B0 := cell_below hb B0
  have B1 := cell_below hb B1
  have B2 := cell_below hb B2
  have B3 := cell_below hb B3
  have B4 := cell_below hb B4
  have B5 := cell_below hb B5
  have Q0 := (GCode.good.below Q0 hb)
  clear hb
  have Q1 := q1
  obtain ⟨v1_0, v1_1, rfl, -, kk1_0, kk1_1⟩ := q1
  obtain ⟨d1_0, e1_0, rfl⟩ := kk1_0.form
  obtain ⟨d1_1, e1_1, rfl⟩ := kk1_1.form
  clear kk1_0 kk1_1
  have hsz0 := World.block_lt_of_cell? _ _ B0
  dsimp only at hsz0
  have hsz2 := World.block_lt_of_cell? _ _ B2
  dsimp only at hsz2
  have hsz4 := World.block_lt_of_cell? _ _ B4
  dsimp only at hsz4
  go_wp2_with fail
  obtain ⟨g1_, hg1⟩ : ∃ g, g = w6.heap.size := ⟨_, rfl⟩
  have ha1 : Below w6.heap.size w6 (w6.alloc (.cells #[.slice d1_0 x1.ins.length e1_0, .slice d1_1 x1.pats.length e1_1] 31)) := by go_grown
  have B0 := cell_below ha1 B0
  have B1 := cell_below ha1 B1
  have B2 := cell_below ha1 B2
  have B3 := cell_below ha1 B3
  have B4 := cell_below ha1 B4
  have B5 := cell_below ha1 B5
  have B6 : (w6.alloc (.cells #[.slice d1_0 x1.ins.length e1_0, .slice d1_1 x1.pats.length e1_1] 31)).cell? ⟨w6.heap.size, 0, none⟩ = some (.slice d1_0 x1.ins.length e1_0) := by simp [go_sem]
  have B7 : (w6.alloc (.cells #[.slice d1_0 x1.ins.length e1_0, .slice d1_1 x1.pats.length e1_1] 31)).cell? ⟨w6.heap.size, 1, none⟩ = some (.slice d1_1 x1.pats.length e1_1) := by simp [go_sem]
  have hw7 : Below w.heap.size w (w6.alloc (.cells #[.slice d1_0 x1.ins.length e1_0, .slice d1_1 x1.pats.length e1_1] 31)) := hw6.trans (ha1.mono hw6.size)
  have Q0 := (GCode.good.below Q0 ha1)
  have Q1 := (GCode.good.below Q1 ha1)
  clear ha1
  clear hsz0
  clear hsz2
  clear hsz4
  generalize w6.alloc (.cells #[.slice d1_0 x1.ins.length e1_0, .slice d1_1 x1.pats.length e1_1] 31) = w7 at *
  go_wp2_with fail
  refine (impl_SameCode_c x0 _ _ x1 _ _ (by omega) (by omega) _ Q0 Q1).mono ?_
  rintro en w8 ⟨rfl, hb⟩
  have hw8 := hw7.trans (hb.mono hw7.size)
  have B0 := cell_below hb B0
  have B1 := cell_below hb B1
  have B2 := cell_below hb B2
  have B3 := cell_below hb B3
  have B4 := cell_below hb B4
  have B5 := cell_below hb B5
  have B6 := cell_below hb B6
  have B7 := cell_below hb B7
  have Q0 := (GCode.good.below Q0 hb)
  have Q1 := (GCode.good.below Q1 hb)
  clear hb
  go_wp2_with fail
  go_upto_region 14 with fail
  go_cut [39] (fun sx wx => sx = .bool false ∧ Below w8.heap.size w8 wx)
  case first =>
    have hK := Below.refl w8.heap.size w8
    have hWw := hw8
    go_region_held3 (fun w' => w'.cell? ⟨w.heap.size, 0, none⟩ = some (.slice p0_0 x0.ins.length c0_0) ∧ w'.cell? ⟨w.heap.size, 1, none⟩ = some (.slice p0_1 x0.pats.length c0_1) ∧ w'.cell? ⟨w.heap.size + 1, 0, none⟩ = some (.slice p1_0 x1.ins.length c1_0) ∧ w'.cell? ⟨w.heap.size + 1, 1, none⟩ = some (.slice p1_1 x1.pats.length c1_1) ∧ w'.cell? ⟨w4.heap.size, 0, none⟩ = some (.slice d0_0 x0.ins.length e0_0) ∧ w'.cell? ⟨w4.heap.size, 1, none⟩ = some (.slice d0_1 x0.pats.length e0_1) ∧ w'.cell? ⟨w6.heap.size, 0, none⟩ = some (.slice d1_0 x1.ins.length e1_0) ∧ w'.cell? ⟨w6.heap.size, 1, none⟩ = some (.slice d1_1 x1.pats.length e1_1))
      (first | go_keep | (refine ⟨cell_below hbk ?_, cell_below hbk ?_, cell_below hbk ?_, cell_below hbk ?_, cell_below hbk ?_, cell_below hbk ?_, cell_below hbk ?_, cell_below hbk ?_⟩ <;> go_keep))
      (first
        | (go_at_call 6; ((with_reducible refine (toCode_c x0 _ 0 (by omega) _ (GCode.good.below Hx0 (by go_grown))).mono ?_); rintro en we0 ⟨t0, rfl, qe0, hbk⟩; have hK : Below w8.heap.size w8 we0 := Below.trans (by go_grown) (hbk.mono (by first | (simp; done) | (have := hK.size; simp; omega) | (have := hK.size; omega))); have hWw : Below w.heap.size w we0 := hw8.trans (hK.mono hw8.size); have Qe0 := (GCode.good.below Q0 hK)))
        | (go_at_call 8; ((with_reducible refine (eqCode_c x0 x0 _ _ _ _ _ Qe0 qe0).mono ?_); rintro en wf0 ⟨rfl, hbk⟩; have hK : Below w8.heap.size w8 wf0 := Below.trans (by go_grown) (hbk.mono (by first | (simp; done) | (have := hK.size; simp; omega) | (have := hK.size; omega))); have hWw : Below w.heap.size w wf0 := hw8.trans (hK.mono hw8.size))))
    all_goals go_wp2_with fail
    all_goals go_meet
    all_goals exact ⟨by first | rfl | (simp; done), hK⟩
  obtain ⟨rfl, hb⟩ := hcut
  obtain ⟨w9, rfl⟩ : ∃ W, W = wc := ⟨_, rfl⟩
  have hw9 := hw8.trans (hb.mono hw8.size)
  have B0 := cell_below hb B0
  have B1 := cell_below hb B1
  have B2 := cell_below hb B2
  have B3 := cell_below hb B3
  have B4 := cell_below hb B4
  have B5 := cell_below hb B5
  have B6 := cell_below hb B6
  have B7 := cell_below hb B7
  have Q1 := (GCode.good.below Q1 hb)
  clear hb
  go_wp2_with fail
  go_upto_region 16 with fail
  go_cut [44] (fun sx wx => sx = .bool false ∧ Below w9.heap.size w9 wx)
  case first =>
    have hK := Below.refl w9.heap.size w9
    have hWw := hw9
    go_region_held3 (fun w' => w'.cell? ⟨w.heap.size, 0, none⟩ = some (.slice p0_0 x0.ins.length c0_0) ∧ w'.cell? ⟨w.heap.size, 1, none⟩ = some (.slice p0_1 x0.pats.length c0_1) ∧ w'.cell? ⟨w.heap.size + 1, 0, none⟩ = some (.slice p1_0 x1.ins.length c1_0) ∧ w'.cell? ⟨w.heap.size + 1, 1, none⟩ = some (.slice p1_1 x1.pats.length c1_1) ∧ w'.cell? ⟨w4.heap.size, 0, none⟩ = some (.slice d0_0 x0.ins.length e0_0) ∧ w'.cell? ⟨w4.heap.size, 1, none⟩ = some (.slice d0_1 x0.pats.length e0_1) ∧ w'.cell? ⟨w6.heap.size, 0, none⟩ = some (.slice d1_0 x1.ins.length e1_0) ∧ w'.cell? ⟨w6.heap.size, 1, none⟩ = some (.slice d1_1 x1.pats.length e1_1))
      (first | go_keep | (refine ⟨cell_below hbk ?_, cell_below hbk ?_, cell_below hbk ?_, cell_below hbk ?_, cell_below hbk ?_, cell_below hbk ?_, cell_below hbk ?_, cell_below hbk ?_⟩ <;> go_keep))
      (first
        | (go_at_call 6; ((with_reducible refine (toCode_c x1 _ 0 (by omega) _ (GCode.good.below Hx1 (by go_grown))).mono ?_); rintro en we1 ⟨t1, rfl, qe1, hbk⟩; have hK : Below w9.heap.size w9 we1 := Below.trans (by go_grown) (hbk.mono (by first | (simp; done) | (have := hK.size; simp; omega) | (have := hK.size; omega))); have hWw : Below w.heap.size w we1 := hw9.trans (hK.mono hw9.size); have Qe1 := (GCode.good.below Q1 hK)))
        | (go_at_call 8; ((with_reducible refine (eqCode_c x1 x1 _ _ _ _ _ Qe1 qe1).mono ?_); rintro en wf1 ⟨rfl, hbk⟩; have hK : Below w9.heap.size w9 wf1 := Below.trans (by go_grown) (hbk.mono (by first | (simp; done) | (have := hK.size; simp; omega) | (have := hK.size; omega))); have hWw : Below w.heap.size w wf1 := hw9.trans (hK.mono hw9.size))))
    all_goals go_wp2_with fail
    all_goals go_meet
    all_goals exact ⟨by first | rfl | (simp; done), hK⟩
  obtain ⟨rfl, hb⟩ := hcut
  obtain ⟨w10, rfl⟩ : ∃ W, W = wc := ⟨_, rfl⟩
  have hw10 := hw9.trans (hb.mono hw9.size)
  have B0 := cell_below hb B0
  have B1 := cell_below hb B1
  have B2 := cell_below hb B2
  have B3 := cell_below hb B3
  have B4 := cell_below hb B4
  have B5 := cell_below hb B5
  have B6 := cell_below hb B6
  have B7 := cell_below hb B7
  clear hb
  go_wp2
  go_returns
  exact ⟨rfl, hw10⟩
end fnExactSameCode
end Go.Proofs.Ytklfepnokidnaaa

/- From the form's own reading of an argument to ours. -/
namespace Go.Proofs.Ytklfepnokidnaaa
open Go.RowKit
set_option linter.unusedVariables false

def Opens {α : Type} (P : Program) (t : TypeId) (R : Reading α) : Prop := ∀ (H : Type) (enc : TypeId × Value → H) (w : World) (spare : Nat → Bool) (held : Bool) (fuel : Nat) (cs : List Value) (x : DataW H × List MemPlace),
  DataW.trod enc P w 0 spare held fuel t cs = some x → ∃ y, R 0 w cs y

def SlR {α : Type} (R : Reading α) (sz : Nat) : Reading (List α) := fun lo w r xs => ∃ v, r = [v] ∧ Sl R sz lo w v xs

theorem opens_int {P : Program} {t : TypeId} (ht : P.underlying t = some (.int .i64)) : Opens P t IntR := by
  intro H enc w spare held fuel cs x h
  obtain ⟨n, rfl, _, hw⟩ := DataW.trod_int ht h
  exact ⟨n, rfl, bounds_i64 hw⟩

theorem opens_string {P : Program} {t : TypeId} (ht : P.underlying t = some .string) : Opens P t StrR := by
  intro H enc w spare held fuel cs x h
  obtain ⟨n, rfl, _, hw⟩ := DataW.trod_string ht h
  exact ⟨n, rfl, by unfold StrOk; unfold maxLen at hw; omega⟩

theorem opens_bool {P : Program} {t : TypeId} (ht : P.underlying t = some .bool) : Opens P t BoolR := by
  intro H enc w spare held fuel cs x h
  obtain ⟨n, rfl, _⟩ := DataW.trod_bool ht h
  exact ⟨n, rfl⟩

theorem opens_byte {P : Program} {t : TypeId} (ht : P.underlying t = some (.int .u8)) : Opens P t ByteR := by
  intro H enc w spare held fuel cs x h
  obtain ⟨n, rfl, _, hw⟩ := DataW.trod_int ht h
  have hb := bounds_u8 hw
  exact ⟨UInt8.ofNat n.toNat, by
    have h1 : (UInt8.ofNat n.toNat).toNat = n.toNat := by
      rw [UInt8.toNat_ofNat']; exact Nat.mod_eq_of_lt (by omega)
    show [Value.int .u8 n] = _
    rw [h1, Int.toNat_of_nonneg hb.1]⟩

theorem list_of {α : Type} {p : Nat → α → Prop} : ∀ (n : Nat), (∀ i, i < n → ∃ y, p i y) → ∃ l : List α, l.length = n ∧ ∀ i y, l[i]? = some y → p i y
  | 0, _ => ⟨[], rfl, fun i y h => by simp at h⟩
  | n + 1, h => by
    obtain ⟨l, hl, hp⟩ := list_of n (fun i hi => h i (by omega))
    obtain ⟨y, hy⟩ := h n (by omega)
    refine ⟨l ++ [y], by simp [hl], fun i z hz => ?_⟩
    rcases Nat.lt_trichotomy i n with hi | hi | hi
    · rw [List.getElem?_append_left (by omega)] at hz
      exact hp i z hz
    · subst hi
      rw [List.getElem?_append_right (by omega), hl] at hz
      simp at hz
      exact hz ▸ hy
    · rw [List.getElem?_eq_none (by simp; omega)] at hz
      cases hz

theorem add_none (b off n : Nat) : (⟨b, off, none⟩ : Addr).add n = ⟨b, off + n, none⟩ := by
  unfold Addr.add
  split
  · subst_vars; rfl
  · rfl

theorem opens_slice {α : Type} {P : Program} {t e : TypeId} {R : Reading α} {sz : Nat} (ht : P.underlying t = some (.slice e)) (hc : P.cellsOf e = sz) (hsz : 0 < sz) (hO : Opens P e R) : Opens P t (SlR R sz) := by
  intro H enc w spare held fuel cs x h
  rcases Deep.open_slice ht h with ⟨rfl, _⟩ | ⟨a, len, cap, m, n, D, Pl, rfl, _, hl, hm, hmm, _, hel⟩
  · exact ⟨[], _, rfl, Sl.nil⟩
  have hlm : len ≤ m := by rw [hmm]; split <;> omega
  rw [hc] at hel
  obtain ⟨xs, hxl, hxs⟩ := list_of (p := fun i y => ∃ cs', w.cells? 0 (a.add (i * sz)) sz = some cs' ∧ R 0 w cs' y) len (fun i hi => by
    obtain ⟨cs', h1, h2⟩ := hel i (by omega)
    obtain ⟨y, hy⟩ := hO H enc w spare held n cs' _ h2
    exact ⟨y, cs', h1, hy⟩)
  subst hxl
  refine ⟨xs, _, rfl, some a, cap, rfl, hl, by unfold maxLen at hm; omega, fun hne => ?_⟩
  have hspot : a.spot = none := by
    obtain ⟨cs', h1, _⟩ := hxs 0 xs[0] (by simp)
    obtain ⟨_, h3, h4⟩ := World.cells?_some h1
    have h5 := h4 0 (by omega)
    have h6 : ∃ v, w.cell? (a.add (0 * sz) |>.add 0) = some v := by
      obtain ⟨v, hv⟩ : ∃ v, cs'[0]? = some v := ⟨cs'[0]'(by omega), by simp⟩
      exact ⟨v, by rw [h5, hv]⟩
    obtain ⟨v, hv⟩ := h6
    have h7 := World.cell?_spot hv
    simpa [Addr.add] using h7
  obtain ⟨b, off, sp⟩ := a
  simp only at hspot
  subst hspot
  refine ⟨b, off, Nat.zero_le _, rfl, fun i y hy => ?_⟩
  obtain ⟨cs', h1, h2⟩ := hxs i y hy
  obtain ⟨_, h3, h4⟩ := World.cells?_some h1
  refine ⟨cs', h2, fun j c hjc => ?_⟩
  have hj : j < sz := by
    have := (List.getElem?_eq_some_iff.1 hjc).1
    omega
  have h5 := h4 j hj
  rw [add_none, add_none] at h5
  rw [h5, hjc]

theorem list_len1 {α : Type} {l : List α} (h : l.length = 1) : ∃ a, l = [a] := by
  match l, h with | [a], _ => exact ⟨a, rfl⟩
theorem list_len2 {α : Type} {l : List α} (h : l.length = 2) : ∃ a b, l = [a, b] := by
  match l, h with | [a, b], _ => exact ⟨a, b, rfl⟩
theorem list_len3 {α : Type} {l : List α} (h : l.length = 3) : ∃ a b c, l = [a, b, c] := by
  match l, h with | [a, b, c], _ => exact ⟨a, b, c, rfl⟩
theorem list_len4 {α : Type} {l : List α} (h : l.length = 4) : ∃ a b c d, l = [a, b, c, d] := by
  match l, h with | [a, b, c, d], _ => exact ⟨a, b, c, d, rfl⟩
theorem list_len6 {α : Type} {l : List α} (h : l.length = 6) : ∃ a b c d e f, l = [a, b, c, d, e, f] := by
  match l, h with | [a, b, c, d, e, f], _ => exact ⟨a, b, c, d, e, f, rfl⟩
theorem list_len9 {α : Type} {l : List α} (h : l.length = 9) : ∃ a b c d e f g i j, l = [a, b, c, d, e, f, g, i, j] := by
  match l, h with | [a, b, c, d, e, f, g, i, j], _ => exact ⟨a, b, c, d, e, f, g, i, j, rfl⟩

/-- A struct argument. -/
theorem open_struct {α : Type} {H : Type} {enc : TypeId × Value → H} {P : Program} {t : TypeId} {fs : Array Field} {R : Reading α} {w : World} {base : Nat} {v : Value} {d : DataW H} {spare : Nat → Bool} {held : Bool} {ps : List MemPlace}
    (hs : P.underlying t = some (.struct fs)) (hO : Opens P t R) (hv : Value.okWide P w .any base t v) (h : DataW.Trod enc P w 0 spare held t v d ps) : ∃ r x, v = .agg r.toArray ∧ R 0 w r x := by
  unfold Value.okWide at hv
  rw [hs] at hv
  obtain ⟨cs, rfl, _, _⟩ := hv
  obtain ⟨fuel, hf⟩ := h
  obtain ⟨x, hx⟩ := hO H enc w spare held fuel _ _ hf
  exact ⟨cs.toList, x, by simp, hx⟩

/-- A slice argument. -/
theorem open_slice_arg {α : Type} {H : Type} {enc : TypeId × Value → H} {P : Program} {t e : TypeId} {R : Reading α} {sz : Nat} {w : World} {base : Nat} {v : Value} {d : DataW H} {spare : Nat → Bool} {held : Bool} {ps : List MemPlace}
    (hs : P.underlying t = some (.slice e)) (hO : Opens P t (SlR R sz)) (hv : Value.okWide P w .any base t v) (h : DataW.Trod enc P w 0 spare held t v d ps) : ∃ xs, Sl R sz 0 w v xs := by
  obtain ⟨a, len, cap, rfl⟩ := Go.WideShapes.okWide_slice hs hv
  obtain ⟨fuel, hf⟩ := h
  obtain ⟨xs, u, hu, hx⟩ := hO H enc w spare held fuel _ _ hf
  simp [Value.cells] at hu
  subst hu
  exact ⟨xs, hx⟩

end Go.Proofs.Ytklfepnokidnaaa
