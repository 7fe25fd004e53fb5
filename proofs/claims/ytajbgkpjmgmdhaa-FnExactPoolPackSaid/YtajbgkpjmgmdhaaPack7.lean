/- PoolPack: both walks. -/
import Derived.Test.YtajbgkpjmgmdhaaPack6
namespace Go.Proofs.Ytajbgkpjmgmdhaa
open Go.RowKit
set_option linter.unusedVariables false
set_option linter.unusedSimpArgs false
attribute [local go_sem] Ext.cell

theorem valOk_bare {v : GVal} {m : Int} (h : valOk v m = true) (h6 : v.kind = 6) : v.s = ⟨#[]⟩ := by
  simp [valOk, h6] at h
  have e : v.s.toList = [] := h.2
  have h2 := v.s
  generalize v.s = s at e
  rw [ByteArray.toList_eq] at e
  obtain ⟨⟨l⟩⟩ := s
  have e' : l = [] := e
  rw [e']
theorem bare_of {p : GPool} {roots : List GVal} (h : poolOk p = true) (hr : roots.all (poolHolds p) = true) : HeapBare p.cells roots := by
  have h' : PoolOk p := by unfold poolOk at h; simpa using h
  have hz : ∀ v : GVal, zeroVal v = true → v.kind = 6 → v.s = ⟨#[]⟩ := fun v hv h6 => by
    unfold zeroVal at hv; simp [h6] at hv
  have hh : ∀ v : GVal, poolHolds p v = true → v.kind = 6 → v.s = ⟨#[]⟩ := fun v hv h6 => by
    unfold poolHolds at hv
    rw [Bool.and_eq_true] at hv
    exact valOk_bare hv.1 h6
  refine ⟨fun v hv => hh v (List.all_eq_true.1 hr v hv), fun c hc => ?_⟩
  obtain ⟨i, hi, rfl⟩ := List.getElem_of_mem hc
  rcases h'.2.2.2 i _ hi (List.getElem?_eq_getElem hi) with h1 | h1
  · obtain ⟨k, hk, e⟩ := List.getElem_of_mem h1
    obtain ⟨j, e1, h2, _, c, h3, h4⟩ := h'.2.2.1 k _ hk (List.getElem?_eq_getElem hk)
    obtain rfl : i = j := by omega
    rw [List.getElem?_eq_getElem hi] at h3
    obtain rfl := Option.some.inj h3
    unfold zeroCell at h4
    simp only [Bool.and_eq_true] at h4
    exact ⟨hz _ h4.1.2, hz _ h4.2⟩
  · unfold poolFits at h1
    simp only [Bool.and_eq_true, Bool.or_eq_true] at h1
    refine ⟨hh _ h1.1.2, ?_⟩
    rcases h1.2 with h2 | h2
    · exact hz _ h2
    · exact hh _ h2
open Classical in
noncomputable def ppC (p : GPool) (roots : List GVal) : List GCell := if psOk p roots then packedC p.cells roots else []
open Classical in
noncomputable def ppV (p : GPool) (roots : List GVal) : List GVal := if psOk p roots then packedV p.cells roots else []
open Classical in
noncomputable def ppB (p : GPool) (roots : List GVal) : Bool := if psOk p roots then true else false
def PpPost (w : World) (p : GPool) (roots : List GVal) (e : Ending) (w' : World) : Prop :=
  ∃ v0 v1, e = .returned (.tuple #[v0, v1, .bool (ppB p roots)]) ∧ OwnCells w.heap.size w' v0 (ppC p roots) ∧ OwnVals w.heap.size w' v1 (ppV p roots) ∧ (∀ g, v0.ownBlock = some g → v1.ownBlock ≠ some g) ∧ Below w.heap.size w w'
theorem pp_no {w w' : World} {p : GPool} {roots : List GVal} (h : ¬ psOk p roots) (hb : Below w.heap.size w w') : PpPost w p roots (.returned (.tuple #[.slice none 0 0, .slice none 0 0, .bool false])) w' :=
  ⟨_, _, by unfold ppB; rw [if_neg h], by unfold ppC; rw [if_neg h]; exact OwnF.empty, by unfold ppV; rw [if_neg h]; exact OwnF.empty, (fun g h => by cases h), hb⟩
theorem pp_yes {w w' W : World} {p : GPool} {roots : List GVal} {v0 v1 : Value} (h : psOk p roots) (hW : w.heap.size ≤ W.heap.size) (h0 : OwnCells W.heap.size w' v0 (packedC p.cells roots)) (h1 : OwnVals W.heap.size w' v1 (packedV p.cells roots)) (ha : ∀ g, v0.ownBlock = some g → v1.ownBlock ≠ some g) (hb : Below w.heap.size w w') :
    PpPost w p roots (.returned (.tuple #[v0, v1, .bool true])) w' :=
  ⟨_, _, by unfold ppB; rw [if_pos h], by unfold ppC; rw [if_pos h]; exact h0.mono hW, by unfold ppV; rw [if_pos h]; exact h1.mono hW, ha, hb⟩

set_option maxRecDepth 100000 in
set_option maxHeartbeats 4000000 in
theorem spec_PoolPack_c (p : GPool) (roots : List GVal) (r : List Value) (u : Value) (lo lo1 : Nat) (hbulk : p.bulk ≤ 1048576) (hr : roots.length ≤ 1048576) (w : World) (hp : GPool.R lo w r p) (hu : Sl GVal.R 3 lo1 w u roots) :
    Calls Try.prog 30 #[.agg r.toArray, u] w (PpPost w p roots) := by
  have Hp := hp
  have Hu := hu
  obtain ⟨u0, u1, rfl, -, a0, a1⟩ := hp
  have Ha0 := a0
  obtain ⟨pa, pc, rfl⟩ := a0.form
  obtain ⟨qa, qc, rfl⟩ := a1.form
  clear a0 a1
  obtain ⟨ra, rc, rfl⟩ := hu.form
  have n0 := length_le_bulkS (f := GCell.bulk) GCell.bulk_nonneg p.cells
  have n1 := length_nonneg p.free
  have hbulk' := hbulk
  simp only [GPool.bulk] at hbulk'
  have hlen : p.cells.length ≤ 1048576 := by omega
  have c1 := fun W (hW : Below w.heap.size w W) => l20Roots_c p roots _ _ lo lo1 hbulk hlen hr W (GPool.good.below Hp hW) (Hu.below GVal.good hW)
  by_cases hps : psOk p roots
  · have c2 := fun W (hW : Below w.heap.size w W) => l11Copy_c p.cells roots _ _ lo lo1 (heapIn_of hps.1 hps.2) (bare_of hps.1 hps.2) hlen hr W (Ha0.below GCell.good hW) (Hu.below GVal.good hW)
    rw [hps.1, hps.2, Bool.true_and] at c1
    replace c1 := Lib.hid c1; replace c2 := Lib.hid c2; replace hps := Lib.hid hps
    clear Ha0 hu Hp Hu hbulk hbulk' n0 n1
    go_enter Try.func30, Try.ntmps30
    go_upto_region 1 with fail
    have B : RowAt (w.alloc (.cells #[.slice pa p.cells.length pc, .slice qa p.free.length qc] 26)) (w.heap.size) 0 [.slice pa p.cells.length pc, .slice qa p.free.length qc] := RowAt.box w #[.slice pa p.cells.length pc, .slice qa p.free.length qc] 26
    have hw : Below w.heap.size w (w.alloc (.cells #[.slice pa p.cells.length pc, .slice qa p.free.length qc] 26)) := by go_grown
    generalize (w.alloc (.cells #[.slice pa p.cells.length pc, .slice qa p.free.length qc] 26)) = w0 at *
    obtain ⟨b_0, b_1⟩ := B.box2; have hsB := World.block_lt_of_cell? _ _ b_0; dsimp only at hsB
    go_wp2_with (first
      | (go_at_call 59; (with_reducible refine (c1.out _ hw).mono ?_); rintro en w5 ⟨rfl, hbk⟩; have hw5 : Below w.heap.size w w5 := hw.trans (hbk.mono hw.size); have B5 := B.below hbk; obtain ⟨b5_0, b5_1⟩ := B5.box2; have hsB5 := World.block_lt_of_cell? _ _ b5_0; dsimp only at hsB5)
      | (go_at_call 67; (with_reducible refine (c2.out _ hw5).mono ?_); rintro en w6 ⟨v0, v1, rfl, O0, O1, hap, hbk⟩; have hw6 : Below w.heap.size w w6 := hw5.trans (hbk.mono hw5.size)))
    go_returns
    exact pp_yes hps.out hw5.size O0 O1 hap hw6
  · rw [show (roots.all (poolHolds p) && poolOk p) = false from by
      cases h1 : roots.all (poolHolds p) <;> cases h2 : poolOk p <;> simp
      exact hps ⟨h2, h1⟩] at c1
    replace c1 := Lib.hid c1; replace hps := Lib.hid hps
    clear Ha0 hu Hp Hu hbulk hbulk' n0 n1
    go_enter Try.func30, Try.ntmps30
    go_upto_region 1 with fail
    have B : RowAt (w.alloc (.cells #[.slice pa p.cells.length pc, .slice qa p.free.length qc] 26)) (w.heap.size) 0 [.slice pa p.cells.length pc, .slice qa p.free.length qc] := RowAt.box w #[.slice pa p.cells.length pc, .slice qa p.free.length qc] 26
    have hw : Below w.heap.size w (w.alloc (.cells #[.slice pa p.cells.length pc, .slice qa p.free.length qc] 26)) := by go_grown
    generalize (w.alloc (.cells #[.slice pa p.cells.length pc, .slice qa p.free.length qc] 26)) = w0 at *
    obtain ⟨b_0, b_1⟩ := B.box2; have hsB := World.block_lt_of_cell? _ _ b_0; dsimp only at hsB
    go_wp2_with (go_at_call 59; (with_reducible refine (c1.out _ hw).mono ?_); rintro en w5 ⟨rfl, hbk⟩; have hw5 : Below w.heap.size w w5 := hw.trans (hbk.mono hw.size))
    go_returns
    exact pp_no hps.out hw5

set_option maxRecDepth 100000 in
set_option maxHeartbeats 4000000 in
theorem impl_PoolPack_c (p : GPool) (roots : List GVal) (r : List Value) (u : Value) (lo lo1 : Nat) (hbulk : p.bulk ≤ 1048576) (hr : roots.length ≤ 1048576) (w : World) (hp : GPool.R lo w r p) (hu : Sl GVal.R 3 lo1 w u roots) :
    Calls Try.prog 24 #[.agg r.toArray, u] w (PpPost w p roots) := by
  have Hp := hp
  have Hu := hu
  obtain ⟨u0, u1, rfl, -, a0, a1⟩ := hp
  have Ha0 := a0
  obtain ⟨pa, pc, rfl⟩ := a0.form
  obtain ⟨qa, qc, rfl⟩ := a1.form
  clear a0 a1
  obtain ⟨ra, rc, rfl⟩ := hu.form
  have n0 := length_le_bulkS (f := GCell.bulk) GCell.bulk_nonneg p.cells
  have n1 := length_nonneg p.free
  have hbulk' := hbulk
  simp only [GPool.bulk] at hbulk'
  have hlen : p.cells.length ≤ 1048576 := by omega
  have c1 := fun W (hW : Below w.heap.size w W) => impl_PoolSweep_c p roots _ _ lo lo1 hbulk hr W (GPool.good.below Hp hW) (Hu.below GVal.good hW)
  by_cases hps : psOk p roots
  · have c2 := fun W (hW : Below w.heap.size w W) => packed_c p.cells roots _ _ lo lo1 (heapIn_of hps.1 hps.2) hlen hr W (Ha0.below GCell.good hW) (Hu.below GVal.good hW)
    have hneg : decide (psN p roots < 0) = false := decide_eq_false (by unfold psN; rw [if_pos hps]; omega)
    replace c1 := Lib.hid c1; replace c2 := Lib.hid c2; replace hps := Lib.hid hps
    clear Ha0 hu Hp Hu hbulk hbulk' n0 n1
    go_enter Try.func24, Try.ntmps24
    go_upto_region 1 with fail
    have B : RowAt (w.alloc (.cells #[.slice pa p.cells.length pc, .slice qa p.free.length qc] 26)) (w.heap.size) 0 [.slice pa p.cells.length pc, .slice qa p.free.length qc] := RowAt.box w #[.slice pa p.cells.length pc, .slice qa p.free.length qc] 26
    have hw : Below w.heap.size w (w.alloc (.cells #[.slice pa p.cells.length pc, .slice qa p.free.length qc] 26)) := by go_grown
    generalize (w.alloc (.cells #[.slice pa p.cells.length pc, .slice qa p.free.length qc] 26)) = w0 at *
    obtain ⟨b_0, b_1⟩ := B.box2; have hsB := World.block_lt_of_cell? _ _ b_0; dsimp only at hsB
    go_wp2_with (first
      | (go_at_call 22; (with_reducible refine (c1.out _ hw).mono ?_); rintro en w5 ⟨q0, q1, rfl, OP, hbk⟩; obtain ⟨xa, xc, rfl⟩ := OP.cells.form; obtain ⟨ya, yc, rfl⟩ := OP.free.form; have hw5 : Below w.heap.size w w5 := hw.trans (hbk.mono hw.size); have B5 := B.below hbk; obtain ⟨b5_0, b5_1⟩ := B5.box2; have hsB5 := World.block_lt_of_cell? _ _ b5_0; dsimp only at hsB5)
      | (go_at_call 62; (with_reducible refine (c2.out _ (by go_grown)).mono ?_); rintro en w6 ⟨v0, v1, rfl, O0, O1, hap, hbk⟩; have hz := hw5.size; have hw6 : Below w.heap.size w w6 := Below.trans (show Below w.heap.size w _ by go_grown) (hbk.mono (by simp; omega))))
    go_returns
    exact pp_yes hps.out (by simp; omega) O0 O1 hap hw6
  · have hneg : decide (psN p roots < 0) = true := decide_eq_true (by unfold psN; rw [if_neg hps]; omega)
    replace c1 := Lib.hid c1; replace hps := Lib.hid hps
    clear Ha0 hu Hp Hu hbulk hbulk' n0 n1
    go_enter Try.func24, Try.ntmps24
    go_upto_region 1 with fail
    have B : RowAt (w.alloc (.cells #[.slice pa p.cells.length pc, .slice qa p.free.length qc] 26)) (w.heap.size) 0 [.slice pa p.cells.length pc, .slice qa p.free.length qc] := RowAt.box w #[.slice pa p.cells.length pc, .slice qa p.free.length qc] 26
    have hw : Below w.heap.size w (w.alloc (.cells #[.slice pa p.cells.length pc, .slice qa p.free.length qc] 26)) := by go_grown
    generalize (w.alloc (.cells #[.slice pa p.cells.length pc, .slice qa p.free.length qc] 26)) = w0 at *
    obtain ⟨b_0, b_1⟩ := B.box2; have hsB := World.block_lt_of_cell? _ _ b_0; dsimp only at hsB
    go_wp2_with (go_at_call 22; (with_reducible refine (c1.out _ hw).mono ?_); rintro en w5 ⟨q0, q1, rfl, OP, hbk⟩; obtain ⟨xa, xc, rfl⟩ := OP.cells.form; obtain ⟨ya, yc, rfl⟩ := OP.free.form; have hw5 : Below w.heap.size w w5 := hw.trans (hbk.mono hw.size))
    go_returns
    have hz5 := hw5.size
    exact pp_no hps.out (Below.alloc hw5 (by omega) _)

end Go.Proofs.Ytajbgkpjmgmdhaa
