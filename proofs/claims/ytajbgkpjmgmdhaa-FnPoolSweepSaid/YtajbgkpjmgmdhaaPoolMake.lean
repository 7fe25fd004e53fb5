/- PoolMake: which cells are free; the program's. -/
import Derived.Test.YtajbgkpjmgmdhaaPoolOwn2
namespace Go.Proofs.Ytajbgkpjmgmdhaa
open Go.RowKit
set_option linter.unusedVariables false
set_option linter.unusedSimpArgs false
attribute [local go_sem] Ext.cell

def FreeIn (p : GPool) : Prop := ∀ (i : Nat) (f : Int), p.free[i]? = some f → ∃ j : Nat, f = j ∧ j < p.cells.length
theorem poolOk_parts {p : GPool} (h : poolOk p = true) : p.cells.length ≤ 4000 ∧ p.free.length ≤ p.cells.length ∧ FreeIn p := by
  have h' : PoolOk p := by unfold poolOk at h; simpa using h
  refine ⟨h'.1, h'.2.1, fun i f hf => ?_⟩
  obtain ⟨j, h1, h2, _⟩ := h'.2.2.1 i f (List.getElem?_eq_some_iff.1 hf).1 hf
  exact ⟨j, h1, h2⟩

set_option maxRecDepth 100000 in
set_option maxHeartbeats 4000000 in
theorem frees_c (p : GPool) (r : List Value) (lo : Nat) (hlen : p.cells.length ≤ 1048576) (hF : FreeIn p) (w : World) (hp : GPool.R lo w r p) :
    Calls Try.prog 40 #[.agg r.toArray] w fun e w' => ∃ g, e = .returned (.slice (some ⟨g, 0, none⟩) p.cells.length p.cells.length) ∧ w.heap.size ≤ g ∧ g < w'.heap.size ∧ Met w' g p.cells.length p.free ∧ Below w.heap.size w w' := by
  obtain ⟨u0, u1, rfl, -, a0, a1⟩ := hp
  obtain ⟨pa, pc, rfl⟩ := a0.form
  obtain ⟨qa, qc, rfl, l1, m1, h1⟩ := a1
  obtain ⟨n, hn⟩ : ∃ n, n = p.cells.length := ⟨_, rfl⟩
  obtain ⟨m, hm⟩ : ∃ n, n = p.free.length := ⟨_, rfl⟩
  rw [← hn] at hlen ⊢
  rw [← hm] at l1 ⊢
  replace hF := Lib.hid hF; replace hn := Lib.hid hn; replace hm := Lib.hid hm; replace h1 := Lib.hid h1
  clear a0
  go_enter Try.func40, Try.ntmps40
  go_upto_region 1 with fail
  have B : RowAt (w.alloc (.cells #[.slice pa n pc, .slice qa m qc] 26)) (w.heap.size) 0 [.slice pa n pc, .slice qa m qc] := RowAt.box w #[.slice pa n pc, .slice qa m qc] 26
  have hw : Below w.heap.size w (w.alloc (.cells #[.slice pa n pc, .slice qa m qc] 26)) := by go_grown
  generalize (w.alloc (.cells #[.slice pa n pc, .slice qa m qc] 26)) = w0 at *
  obtain ⟨b_0, b_1⟩ := B.box2; have hsB := World.block_lt_of_cell? _ _ b_0; dsimp only at hsB
  obtain ⟨i0, hi, hi0, hi1, hi2⟩ := info_parts info_Bool
  replace hi := Lib.hid hi; replace hi0 := Lib.hid hi0; replace hi1 := Lib.hid hi1; replace hi2 := Lib.hid hi2
  have hg : w.heap.size < w0.heap.size := hsB
  go_wp2_with (at_make; refine wpList_makeN rfl _ _ _ rfl 4 i0 _ 1 Try.underlying75 hi.out hi0.out hi1.out rfl n rfl rfl (by rw [hi2.out]; omega) (by omega) ?_; intro w1 hb hz1 hA hr; have M0 : Met w1 w0.heap.size n (p.free.take 0) := (Met.made hA hr); clear hA hr; have hw := hw.trans (hb.mono hw.size); have B := B.below hb; obtain ⟨b_0, b_1⟩ := B.box2; have hsB := World.block_lt_of_cell? _ _ b_0; dsimp only at hsB; clear hb)
  generalize w0.heap.size = g at *
  go_loopw [13] (fun i wr => ∃ k : Nat, k ≤ m ∧ i = .int .i64 k ∧ Below w.heap.size w wr ∧ RowAt wr w.heap.size 0 [.slice pa n pc, .slice qa m qc] ∧ g < wr.heap.size ∧ Met wr g n (p.free.take k)) (fun i _ => m - (intOf i).toNat)
  case atStart => exact ⟨0, by omega, rfl, hw, B, by omega, M0⟩
  case round =>
    clear hw B M0 hz1 b_0 b_1 hsB
    obtain ⟨k, hk, rfl, hw, B, hgr, hM⟩ := hrel
    obtain ⟨b_0, b_1⟩ := B.box2; have hsB := World.block_lt_of_cell? _ _ b_0; dsimp only at hsB
    by_cases hlt : k < m
    · obtain ⟨b1, o1, f, s1, _, rfl, P1, ⟨rfl, hf64⟩, r1⟩ := (h1.out.below IntR.good hw).get hm hlt
      rw [Nat.mul_one] at r1
      have R1 := r1.cells1
      obtain ⟨j, rfl, hj'⟩ := hF.out k f P1.out
      have hj : j < n := by have := hn.out; omega
      have M1 := (hM j hj).1
      have M2 := (hM j hj).2
      have hst := Lib.hid (take_snoc' P1.out)
      replace hM := Lib.hid hM
      clear hj'
      go_wp2_with fail
      go_roundw
      case rel =>
        refine ⟨k + 1, by omega, by go_num, hw.setCell (p := ⟨g, j, none⟩) (by show w.heap.size ≤ g; omega) _, ?_, by simp [World.setCell]; exact hgr, by rw [hst.out]; exact hM.out.set hj⟩
        exact B.set_other (by omega) _
      case measure => simp [intOf]; omega
    · obtain rfl : m = k := by omega
      replace hM := Lib.hid hM
      go_wp2_with fail
      go_returns
      refine ⟨g, rfl, by omega, hgr, ?_, hw⟩
      have := hM.out
      rwa [List.take_of_length_le (by have := hm.out; omega)] at this

theorem below_set2 {B b : Nat} {w W : World} (hb : Below B w W) (h : B ≤ b) (x y : Value) : Below B w ((W.setCell ⟨b, 0, none⟩ x).setCell ⟨b, 1, none⟩ y) :=
  Below.trans (hb.setCell (p := ⟨b, 0, none⟩) h x) ((Below.refl B _).setCell (p := ⟨b, 1, none⟩) h y)
theorem stored2 {W : World} {b : Nat} {x y : Value} {u v : Value} (h0 : W.cell? ⟨b, 0, none⟩ = some u) (h1 : W.cell? ⟨b, 1, none⟩ = some v) :
    (W.setCell ⟨b, 0, none⟩ x).cell? ⟨b, 0, none⟩ = some x ∧ ((W.setCell ⟨b, 0, none⟩ x).setCell ⟨b, 1, none⟩ y).cell? ⟨b, 1, none⟩ = some y :=
  ⟨cell_setCell_eq W b 0 x h0, cell_setCell_eq _ b 1 y ((cell_setCell_ne W b 0 1 x (by omega)).trans h1)⟩

/-! ### What PoolMake answers -/
noncomputable def pmCode (p : GPool) (c : GCell) : Int := if poolOk p = true ∧ poolFits p c = true then (if p.free.length = 0 then 2 else 0) else 1
noncomputable def pmAt (p : GPool) (c : GCell) : Int := if pmCode p c = 0 then p.free.getD (p.free.length - 1) 0 else 0
noncomputable def pmPool (p : GPool) (c : GCell) : GPool := if pmCode p c = 0 then ⟨p.cells.set (pmAt p c).toNat c, p.free.take (p.free.length - 1)⟩ else GPool.zero
def PmPost (w : World) (p : GPool) (c : GCell) (e : Ending) (w' : World) : Prop :=
  ∃ v0 v1, e = .returned (.tuple #[.agg #[v0, v1], .int .i64 (pmAt p c), .int .i64 (pmCode p c)]) ∧ OwnPool w.heap.size w' v0 v1 (pmPool p c) ∧ Below w.heap.size w w'
theorem pm_no {w w' : World} {p : GPool} {c : GCell} (h : ¬ (poolOk p = true ∧ poolFits p c = true)) (hb : Below w.heap.size w w') : PmPost w p c (.returned (.tuple #[.agg #[.slice none 0 0, .slice none 0 0], .int .i64 0, .int .i64 1])) w' := by
  have hc : pmCode p c = 1 := by unfold pmCode; rw [if_neg h]
  have ha : pmAt p c = 0 := by unfold pmAt; rw [if_neg (by rw [hc]; decide)]
  have hp : pmPool p c = GPool.zero := by unfold pmPool; rw [if_neg (by rw [hc]; decide)]
  exact ⟨_, _, by rw [hc, ha], by rw [hp]; exact OwnPool.nil _ _, hb⟩
theorem pm_full {w w' : World} {p : GPool} {c : GCell} (h : poolOk p = true ∧ poolFits p c = true) (h0 : p.free.length = 0) (hb : Below w.heap.size w w') : PmPost w p c (.returned (.tuple #[.agg #[.slice none 0 0, .slice none 0 0], .int .i64 0, .int .i64 2])) w' := by
  have hc : pmCode p c = 2 := by unfold pmCode; rw [if_pos h, if_pos h0]
  have ha : pmAt p c = 0 := by unfold pmAt; rw [if_neg (by rw [hc]; decide)]
  have hp : pmPool p c = GPool.zero := by unfold pmPool; rw [if_neg (by rw [hc]; decide)]
  exact ⟨_, _, by rw [hc, ha], by rw [hp]; exact OwnPool.nil _ _, hb⟩

end Go.Proofs.Ytajbgkpjmgmdhaa
