/- markPool and heldPool of any pool that the call owns. -/
import Derived.Test.YtajbgkpjmgmdhaaPoolOwn
import Derived.Test.YtajbgkpjmgmdhaaFill
import Derived.Test.YtajbgkpjmgmdhaaMarkOwnInt
import Derived.Test.YtajbgkpjmgmdhaaMarkOwnCell
namespace Go.Proofs.Ytajbgkpjmgmdhaa
open Go.RowKit
set_option linter.unusedVariables false
set_option linter.unusedSimpArgs false
attribute [local go_sem] Ext.cell

theorem Kept.mono {S S' : Nat → Prop} {w w' : World} (h : Kept S w w') (hS : ∀ k, S k → S' k) : Kept S' w w' := fun k h1 h2 => h k h1 (fun h3 => h2 (hS k h3))
/-- A marked pool of N cells and M free places. -/
def MkPool (w : World) (v0 v1 : Value) (N M : Nat) : Prop := MkCells w v0 N 1 ∧ MkInts w v1 M (1 + N * 9)
theorem MkPool.below {w w' : World} {v0 v1 : Value} {N M : Nat} (h : MkPool w v0 v1 N M) (hb : Below w.heap.size w w') : MkPool w' v0 v1 N M := ⟨h.1.below hb, h.2.below hb⟩
theorem MkPool.kept {S : Nat → Prop} {w w' : World} {v0 v1 : Value} {N M : Nat} (h : MkPool w v0 v1 N M) (hk : Kept S w w') (h0 : ∀ g, v0.ownBlock = some g → ¬ S g) (h1 : ∀ g, v1.ownBlock = some g → ¬ S g) : MkPool w' v0 v1 N M := ⟨h.1.kept hk h0, h.2.kept hk h1⟩

set_option maxRecDepth 100000 in
set_option maxHeartbeats 2000000 in
theorem markPool_c (p : GPool) (lo : Nat) (v0 v1 : Value) (N M : Nat) (eN : N = p.cells.length) (eM : M = p.free.length) (hN : N ≤ 1048576) (hM : M ≤ 1048576) (w : World) (h : OwnPool lo w v0 v1 p) (hlo : lo ≤ w.heap.size) :
    Calls Try.prog 19 #[.agg #[v0, v1], .int .i64 1] w fun e w' => e = .returned (.int .i64 (1 + (N : Int) * 9 + M)) ∧ MkPool w' v0 v1 N M ∧ Below lo w w' ∧ Kept (fun q => v0.ownBlock = some q ∨ v1.ownBlock = some q) w w' := by
  obtain ⟨⟨O0, _⟩, ⟨O1, _⟩, hap⟩ := h
  rw [← eN] at O0
  rw [← eM] at O1
  clear eN eM
  have hb0 := Lib.hid (own_base O0)
  have hb1 := Lib.hid (own_base O1)
  obtain ⟨a0, c0, rfl⟩ := own_form O0
  obtain ⟨a1, c1, rfl⟩ := own_form O1
  replace hap := Lib.hid hap
  go_enter Try.func19, Try.ntmps19
  go_upto_region 1 with fail
  have B : RowAt (w.alloc (.cells #[.slice a0 N c0, .slice a1 M c1] 26)) (w.heap.size) 0 [.slice a0 N c0, .slice a1 M c1] := RowAt.box w #[.slice a0 N c0, .slice a1 M c1] 26
  have hw : Below w.heap.size w (w.alloc (.cells #[.slice a0 N c0, .slice a1 M c1] 26)) := by go_grown
  generalize (w.alloc (.cells #[.slice a0 N c0, .slice a1 M c1] 26)) = w0 at *
  have O0 := own_below O0 hw
  have O1 := own_below O1 hw
  have hz := hw.size
  obtain ⟨b_0, b_1⟩ := B.box2; have hsB := World.block_lt_of_cell? _ _ b_0; dsimp only at hsB
  go_wp2_with fail
  refine (markCells_c (.slice a0 N c0) N 1 lo 1 (1 + (N : Int) * 9) rfl rfl (by omega) _ w0 O0 (by omega)).mono ?_
  rintro e w1 ⟨rfl, hM0, hB1, hk1⟩
  replace B := B.kept hk1 (fun e => by have := (hb0.out _ e).2; omega)
  have O1 := own_kept O1 hk1 (fun g hg e => hap.out g e hg)
  have hw1 : Below lo w w1 := (hw.mono hlo).trans hB1
  have hz1 := hB1.size
  have K1 : Kept (fun q => (Value.slice a0 N c0).ownBlock = some q ∨ (Value.slice a1 M c1).ownBlock = some q) w w1 := (Kept.below hw).trans hz (hk1.mono (fun k h => .inl h))
  replace K1 := Lib.hid K1
  clear hk1 hB1 O0 b_0 b_1 hsB
  obtain ⟨b_0, b_1⟩ := B.box2; have hsB := World.block_lt_of_cell? _ _ b_0; dsimp only at hsB
  go_wp2_with fail
  refine (markInts_c (.slice a1 M c1) M (1 + N * 9) lo (1 + (N : Int) * 9) (1 + (N : Int) * 9 + M) (by omega) rfl (by omega) _ w1 O1 (by omega)).mono ?_
  rintro e w2 ⟨rfl, hM1, hB2, hk2⟩
  replace hM0 := hM0.kept hk2 (fun g hg e => hap.out g hg e)
  have hw2 := hw1.trans (hB2.mono (by omega))
  have K2 := Lib.hid (K1.out.trans (Nat.le_trans hz hz1) (hk2.mono (fun k h => .inr h)))
  clear hk2 hB2 O1 b_0 b_1 hsB
  go_wp2
  go_returns
  exact ⟨rfl, ⟨hM0, hM1⟩, hw2, K2.out⟩

set_option maxRecDepth 100000 in
set_option maxHeartbeats 2000000 in
theorem heldPool_c (v0 v1 : Value) (N M : Nat) (hN : N ≤ 1048576) (hM : M ≤ 1048576) (w : World) (h : MkPool w v0 v1 N M) :
    Calls Try.prog 20 #[.agg #[v0, v1], .int .i64 1] w fun e w' => e = .returned (.int .i64 (1 + (N : Int) * 9 + M)) ∧ Below w.heap.size w w' := by
  obtain ⟨h0, h1⟩ := h
  obtain ⟨a0, c0, rfl⟩ := h0.form
  obtain ⟨a1, c1, rfl⟩ := h1.form
  have d1 : decide (1 + (N : Int) * 9 < 0) = false := decide_eq_false (by omega)
  have d2 : decide (1 + (N : Int) * 9 + M < 0) = false := decide_eq_false (by omega)
  go_enter Try.func20, Try.ntmps20
  go_upto_region 1 with fail
  have B : RowAt (w.alloc (.cells #[.slice a0 N c0, .slice a1 M c1] 26)) (w.heap.size) 0 [.slice a0 N c0, .slice a1 M c1] := RowAt.box w #[.slice a0 N c0, .slice a1 M c1] 26
  have hw : Below w.heap.size w (w.alloc (.cells #[.slice a0 N c0, .slice a1 M c1] 26)) := by go_grown
  generalize (w.alloc (.cells #[.slice a0 N c0, .slice a1 M c1] 26)) = w0 at *
  have h0 := h0.below hw
  have h1 := Lib.hid (h1.below hw)
  obtain ⟨b_0, b_1⟩ := B.box2; have hsB := World.block_lt_of_cell? _ _ b_0; dsimp only at hsB
  go_wp2_with fail
  refine (heldCells_c (.slice a0 N c0) N 1 1 (1 + (N : Int) * 9) rfl rfl (by omega) w0 h0).mono ?_
  rintro e w1 ⟨rfl, hb⟩
  replace h1 := Lib.hid (h1.out.below hb)
  have hw := hw.trans (hb.mono hw.size); have B := B.below hb; obtain ⟨b_0, b_1⟩ := B.box2; have hsB := World.block_lt_of_cell? _ _ b_0; dsimp only at hsB; clear hb
  go_wp2_with fail
  refine (heldInts_c (.slice a1 M c1) M (1 + N * 9) (1 + (N : Int) * 9) (1 + (N : Int) * 9 + M) (by omega) rfl (by omega) w1 h1.out).mono ?_
  rintro e w2 ⟨rfl, hb⟩
  have hw := hw.trans (hb.mono hw.size)
  go_wp2
  go_returns
  exact ⟨rfl, hw⟩

end Go.Proofs.Ytajbgkpjmgmdhaa
