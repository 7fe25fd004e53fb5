/- The law PoolNew: the walk. -/
import Derived.Test.YtakpmnagdpiceaaPoolMark
namespace Go.Proofs.Ytakpmnagdpiceaa
open Go.RowKit
set_option linter.unusedVariables false
set_option linter.unusedSimpArgs false
attribute [local go_sem] Ext.cell

namespace fnExactPoolNew
def newPool (N : Nat) : GPool := ⟨List.replicate N ⟨0, 0, ⟨#[]⟩, ⟨0, 0, ⟨#[]⟩⟩, ⟨0, 0, ⟨#[]⟩⟩⟩, downs N N⟩
theorem pool_R {w : World} {c lo N : Nat} {v : Value} (hN : N ≤ 4000) (h : PoolIs w c lo N v) : GPool.R 0 w [.slice (some ⟨c, 0, none⟩) N N, v] (newPool N) := by
  refine ⟨_, _, rfl, trivial, ⟨_, N, by simp [newPool], by simp [newPool], by omega, fun _ => ⟨c, 0, Nat.zero_le _, rfl, fun i x hx => ?_⟩⟩, ?_⟩
  · have hi : i < N := by have := (List.getElem?_eq_some_iff.1 hx).1; simpa [newPool] using this
    obtain rfl : x = _ := by simpa [newPool, List.getElem?_replicate, hi] using hx.symm
    refine ⟨zeroRow, ⟨rfl, ?_⟩, by rw [Nat.zero_add]; exact h.2.1 i hi⟩
    refine ⟨?_, ?_⟩ <;> simp [GCell.wf, GVal.wf, I64, StrOk] <;> exact Nat.zero_le _
  · have hl : N = (downs N N).length := by simp [downs]
    have O := h.2.2.1
    have : w.ownsRow 0 3 1 v (downs N N).length ((downs N N).map (Value.int .i64)) := by
      rw [← hl]
      refine ⟨O.1, ?_⟩
      rcases O.2 with h0 | ⟨g, cap, cur, hv, h1, h2⟩
      · exact .inl h0
      · exact .inr ⟨g, cap, cur, hv, Nat.zero_le _, h2⟩
    refine own_sl (R := IntR) (downs N N) this (fun x hx => ⟨rfl, ?_⟩)
    simp only [downs, List.mem_map, List.mem_range] at hx
    obtain ⟨j, hj, rfl⟩ := hx
    constructor <;> omega
theorem eqNew {w : World} {c c' lo lo' N : Nat} {v v' : Value} (hN : N ≤ 4000) (h : PoolIs w c lo N v) (h' : PoolIs w c' lo' N v') :
    Calls Try.prog 21 #[.agg #[.slice (some ⟨c, 0, none⟩) N N, v], .agg #[.slice (some ⟨c', 0, none⟩) N N, v']] w fun e w' => e = .returned (.bool true) ∧ Below w.heap.size w w' :=
  (eqPool_c _ _ _ _ 0 0 w (pool_R hN h) (pool_R hN h')).mono fun e w' ⟨he, hb⟩ => ⟨by rw [he, decide_eq_true rfl], hb⟩
theorem eqNil (w : World) :
    Calls Try.prog 21 #[.agg #[.slice none 0 0, .slice none 0 0], .agg #[.slice none 0 0, .slice none 0 0]] w fun e w' => e = .returned (.bool true) ∧ Below w.heap.size w w' :=
  have h : GPool.R 0 w [.slice none 0 0, .slice none 0 0] ⟨[], []⟩ := ⟨_, _, rfl, trivial, Sl.nil, Sl.nil⟩
  (eqPool_c _ _ _ _ 0 0 w h h).mono fun e w' ⟨he, hb⟩ => ⟨by rw [he, decide_eq_true rfl], hb⟩

theorem form_of {w : World} {c lo N : Nat} {v : Value} (h : PoolIs w c lo N v) : ∃ a n c', v = .slice a n c' := by rcases h.2.2.1.2 with ⟨rfl, _⟩ | ⟨_, _, _, rfl, _⟩ <;> exact ⟨_, _, _, rfl⟩

set_option maxRecDepth 100000 in
set_option maxHeartbeats 4000000 in
theorem law_in (N : Nat) (hN : N ≤ 4000) (w : World) :
    Calls Try.prog 5 #[.int .i64 N] w fun en w' => en = .returned (.bool true) ∧ Below w.heap.size w w' := by
  have d1 : decide (1 + (N : Int) * 9 + N < 0) = false := decide_eq_false (by omega)
  go_enter Try.func5, Try.ntmps5
  go_wp2_with fail
  refine (spec_PoolNew_in N hN _).mono ?_
  rintro e w1 ⟨v0, rfl, P0, h1⟩
  obtain ⟨a0, n0, c0, rfl⟩ := form_of P0
  have hob0 := own_base P0.2.2.1
  have hz1 := h1.size
  have hlo0 := P0.2.2.2.2
  go_wp2_with fail
  obtain ⟨W1, hW1⟩ : ∃ W, W = w1.alloc (.cells #[.slice (some ⟨w.heap.size + 1, 0, none⟩) N N, .slice a0 n0 c0] 38) := ⟨_, rfl⟩
  rw [← hW1]
  have hb : Below w1.heap.size w1 W1 := by rw [hW1]; go_grown
  have B : RowAt W1 w1.heap.size 0 [.slice (some ⟨w.heap.size + 1, 0, none⟩) N N, .slice a0 n0 c0] := by rw [hW1]; exact RowAt.box w1 #[_, _] _
  have hs1 : w1.heap.size < W1.heap.size := by rw [hW1]; simp
  replace P0 := P0.below hb
  have hw := h1.trans (hb.mono hz1)
  clear hW1 hb h1
  refine (impl_PoolNew_in N hN W1).mono ?_
  rintro e w2 ⟨v1, rfl, P1, h2⟩
  obtain ⟨a1, n1, c1, rfl⟩ := form_of P1
  have hob1 := own_base P1.2.2.1
  have hz2 := h2.size
  have hlo1 := P1.2.2.2.2
  replace P0 := P0.below h2
  replace B := B.below h2
  replace hw := hw.trans (h2.mono hw.size)
  clear h2
  go_upto_region 3 with fail
  obtain ⟨W2, hW2⟩ : ∃ W, W = w2.alloc (.cells #[.slice (some ⟨W1.heap.size + 1, 0, none⟩) N N, .slice a1 n1 c1] 38) := ⟨_, rfl⟩
  rw [← hW2]
  have hb : Below w2.heap.size w2 W2 := by rw [hW2]; go_grown
  have D : RowAt W2 w2.heap.size 0 [.slice (some ⟨W1.heap.size + 1, 0, none⟩) N N, .slice a1 n1 c1] := by rw [hW2]; exact RowAt.box w2 #[_, _] _
  have hs2 : w2.heap.size < W2.heap.size := by rw [hW2]; simp
  replace P0 := P0.below hb
  replace P1 := P1.below hb
  replace B := B.below hb
  replace hw := hw.trans (hb.mono hw.size)
  clear hW2 hb
  obtain ⟨b0, b1⟩ := B.box2
  obtain ⟨d0, d2⟩ := D.box2
  go_wp2_with fail
  refine (eqNew hN P1 P0).mono ?_
  rintro e w3 ⟨rfl, hb⟩
  replace P0 := P0.below hb
  replace P1 := P1.below hb
  replace B := B.below hb
  replace D := D.below hb
  replace hw := hw.trans (hb.mono hw.size)
  have hs3 : W2.heap.size ≤ w3.heap.size := hb.size
  clear hb b0 b1 d0 d2
  obtain ⟨d0, d2⟩ := D.box2
  go_wp2_with fail
  refine (markPool_c _ N _ _ hN w3 P1).mono ?_
  rintro e w4 ⟨rfl, hM, hb, hK⟩
  have hs4 := hb.size
  have nB : ∀ c, (c ≤ w1.heap.size ∨ w2.heap.size ≤ c) → ¬ (c = W1.heap.size + 1 ∨ (Value.slice a1 n1 c1).ownBlock = some c) := fun c hc h => by
    rcases h with h | h
    · omega
    · have := hob1 c h; omega
  replace P0 := P0.kept hK hs4 (nB _ (by omega)) (fun g hg => nB g (.inl (by have := (hob0 g hg).2; omega)))
  replace B := B.kept hK (nB _ (by omega))
  replace D := D.kept hK (nB _ (by omega))
  replace hw := hw.trans (hb.mono (by omega))
  clear hb hK P1 nB d0 d2
  obtain ⟨d0, d2⟩ := D.box2
  go_wp2_with fail
  refine (heldPool_c _ N _ hN w4 hM).mono ?_
  rintro e w5 ⟨rfl, hb⟩
  replace P0 := P0.below hb
  replace hM := hM.below hb
  replace B := B.below hb
  replace D := D.below hb
  replace hw := hw.trans (hb.mono hw.size)
  have hs5 := hb.size
  clear hb d0 d2
  go_wp2_with fail
  refine (impl_PoolNew_in N hN w5).mono ?_
  rintro e w6 ⟨v2, rfl, P2, hb⟩
  obtain ⟨a2, n2, c2, rfl⟩ := form_of P2
  replace P0 := P0.below hb
  replace hM := hM.below hb
  replace B := B.below hb
  replace D := D.below hb
  replace hw := hw.trans (hb.mono hw.size)
  have hs6 := hb.size
  clear hb
  go_upto_region 14 with fail
  obtain ⟨W3, hW3⟩ : ∃ W, W = w6.alloc (.cells #[.slice (some ⟨w5.heap.size + 1, 0, none⟩) N N, .slice a2 n2 c2] 38) := ⟨_, rfl⟩
  rw [← hW3]
  have hb : Below w6.heap.size w6 W3 := by rw [hW3]; go_grown
  have E : RowAt W3 w6.heap.size 0 [.slice (some ⟨w5.heap.size + 1, 0, none⟩) N N, .slice a2 n2 c2] := by rw [hW3]; exact RowAt.box w6 #[_, _] _
  replace P0 := P0.below hb
  replace P2 := P2.below hb
  replace hM := hM.below hb
  replace B := B.below hb
  replace D := D.below hb
  replace hw := hw.trans (hb.mono hw.size)
  clear hW3 hb
  obtain ⟨b0, b1⟩ := B.box2
  obtain ⟨q0, q1⟩ := E.box2
  go_wp2_with fail
  refine (eqNew hN P2 P0).mono ?_
  rintro e w7 ⟨rfl, hb⟩
  replace hM := hM.below hb
  replace D := D.below hb
  replace hw := hw.trans (hb.mono hw.size)
  clear hb b0 b1 q0 q1 B E P0 P2
  obtain ⟨d0, d2⟩ := D.box2
  go_wp2_with fail
  refine (heldPool_c _ N _ hN w7 hM).mono ?_
  rintro e w8 ⟨rfl, hb⟩
  replace hw := hw.trans (hb.mono hw.size)
  clear hb d0 d2
  go_wp2_with fail
  go_returns
  exact ⟨rfl, hw⟩

set_option maxHeartbeats 1000000 in
theorem markCellS_nil (z : Int) (w : World) :
    Calls Try.prog 42 #[.slice none 0 0, .int .i64 z] w fun e w' => e = .returned (.int .i64 z) ∧ Below w.heap.size w w' := by
  go_enter Try.func42, Try.ntmps42
  go_wp2_with fail
  go_loopw [1, 5] (fun kk i wr => kk = .int .i64 z ∧ i = .int .i64 0 ∧ Below w.heap.size w wr) (fun _ _ _ => 0)
  case atStart => exact ⟨rfl, rfl, Below.refl _ _⟩
  case round =>
    obtain ⟨rfl, rfl, hw⟩ := hrel
    go_wp2
    go_returns
    exact ⟨rfl, hw⟩

set_option maxHeartbeats 1000000 in
theorem heldCellS_nil (z : Int) (w : World) :
    Calls Try.prog 44 #[.slice none 0 0, .int .i64 z] w fun e w' => e = .returned (.int .i64 z) ∧ Below w.heap.size w w' := by
  go_enter Try.func44, Try.ntmps44
  go_wp2_with fail
  go_loopw [1, 5] (fun kk i wr => kk = .int .i64 z ∧ i = .int .i64 0 ∧ Below w.heap.size w wr) (fun _ _ _ => 0)
  case atStart => exact ⟨rfl, rfl, Below.refl _ _⟩
  case round =>
    obtain ⟨rfl, rfl, hw⟩ := hrel
    go_wp2
    go_returns
    exact ⟨rfl, hw⟩

set_option maxRecDepth 100000 in
set_option maxHeartbeats 1000000 in
theorem markPool_nil (w : World) :
    Calls Try.prog 22 #[.agg #[.slice none 0 0, .slice none 0 0], .int .i64 1] w fun e w' => e = .returned (.int .i64 1) ∧ Below w.heap.size w w' := by
  go_enter Try.func22, Try.ntmps22
  go_upto_region 1 with fail
  have B : RowAt (w.alloc (.cells #[.slice none 0 0, .slice none 0 0] 38)) (w.heap.size) 0 [.slice none 0 0, .slice none 0 0] := RowAt.box w #[.slice none 0 0, .slice none 0 0] 38
  have hw : Below w.heap.size w (w.alloc (.cells #[.slice none 0 0, .slice none 0 0] 38)) := by go_grown
  generalize (w.alloc (.cells #[.slice none 0 0, .slice none 0 0] 38)) = w0 at *
  obtain ⟨b_0, b_1⟩ := B.box2; have hsB := World.block_lt_of_cell? _ _ b_0; dsimp only at hsB
  go_wp2_with fail
  refine (markCellS_nil 1 w0).mono ?_
  rintro e w1 ⟨rfl, hb⟩
  have hw := hw.trans (hb.mono hw.size); have B := B.below hb; obtain ⟨b_0, b_1⟩ := B.box2; have hsB := World.block_lt_of_cell? _ _ b_0; dsimp only at hsB; clear hb
  go_wp2_with fail
  refine (markIntS_nil 1 w1).mono ?_
  rintro e w2 ⟨rfl, hb⟩
  have hw := hw.trans (hb.mono hw.size)
  go_wp2
  go_returns
  exact ⟨rfl, hw⟩

set_option maxRecDepth 100000 in
set_option maxHeartbeats 1000000 in
theorem heldPool_nil (w : World) :
    Calls Try.prog 23 #[.agg #[.slice none 0 0, .slice none 0 0], .int .i64 1] w fun e w' => e = .returned (.int .i64 1) ∧ Below w.heap.size w w' := by
  go_enter Try.func23, Try.ntmps23
  go_upto_region 1 with fail
  have B : RowAt (w.alloc (.cells #[.slice none 0 0, .slice none 0 0] 38)) (w.heap.size) 0 [.slice none 0 0, .slice none 0 0] := RowAt.box w #[.slice none 0 0, .slice none 0 0] 38
  have hw : Below w.heap.size w (w.alloc (.cells #[.slice none 0 0, .slice none 0 0] 38)) := by go_grown
  generalize (w.alloc (.cells #[.slice none 0 0, .slice none 0 0] 38)) = w0 at *
  obtain ⟨b_0, b_1⟩ := B.box2; have hsB := World.block_lt_of_cell? _ _ b_0; dsimp only at hsB
  go_wp2_with fail
  refine (heldCellS_nil 1 w0).mono ?_
  rintro e w1 ⟨rfl, hb⟩
  have hw := hw.trans (hb.mono hw.size); have B := B.below hb; obtain ⟨b_0, b_1⟩ := B.box2; have hsB := World.block_lt_of_cell? _ _ b_0; dsimp only at hsB; clear hb
  go_wp2_with fail
  refine (heldIntS_nil 1 w1).mono ?_
  rintro e w2 ⟨rfl, hb⟩
  have hw := hw.trans (hb.mono hw.size)
  go_wp2
  go_returns
  exact ⟨rfl, hw⟩

set_option maxRecDepth 100000 in
set_option maxHeartbeats 4000000 in
theorem law_out (n : Int) (hn : n < 0 ∨ 4000 < n) (w : World) :
    Calls Try.prog 5 #[.int .i64 n] w fun en w' => en = .returned (.bool true) ∧ Below w.heap.size w w' := by
  replace hn := Lib.hid hn
  have hw : Below w.heap.size w w := Below.refl _ _
  go_enter Try.func5, Try.ntmps5
  go_wp2_with fail
  refine (spec_PoolNew_out n hn.out _).mono ?_
  rintro e w1 ⟨rfl, hb⟩
  replace hw := hw.trans (hb.mono hw.size)
  clear hb
  go_wp2_with fail
  obtain ⟨W1, hW⟩ : ∃ W, W = w1.alloc (.cells #[.slice none 0 0, .slice none 0 0] 38) := ⟨_, rfl⟩
  rw [← hW]
  have hb : Below w1.heap.size w1 W1 := by rw [hW]; go_grown
  have B : RowAt W1 w1.heap.size 0 [.slice none 0 0, .slice none 0 0] := by rw [hW]; exact RowAt.box w1 #[_, _] _
  replace hw := hw.trans (hb.mono hw.size)
  clear hW hb
  refine (impl_PoolNew_out n hn.out _).mono ?_
  rintro e w2 ⟨rfl, hb⟩
  replace B := B.below hb
  replace hw := hw.trans (hb.mono hw.size)
  clear hb
  go_upto_region 3 with fail
  obtain ⟨W2, hW⟩ : ∃ W, W = w2.alloc (.cells #[.slice none 0 0, .slice none 0 0] 38) := ⟨_, rfl⟩
  rw [← hW]
  have hb : Below w2.heap.size w2 W2 := by rw [hW]; go_grown
  have D : RowAt W2 w2.heap.size 0 [.slice none 0 0, .slice none 0 0] := by rw [hW]; exact RowAt.box w2 #[_, _] _
  replace B := B.below hb
  replace hw := hw.trans (hb.mono hw.size)
  clear hW hb
  obtain ⟨b0, b1⟩ := B.box2
  obtain ⟨d0, d2⟩ := D.box2
  go_wp2_with fail
  refine (eqNil _).mono ?_
  rintro e w3 ⟨rfl, hb⟩
  replace B := B.below hb
  replace D := D.below hb
  replace hw := hw.trans (hb.mono hw.size)
  clear hb
  clear b0 b1 d0 d2
  obtain ⟨d0, d2⟩ := D.box2
  go_wp2_with fail
  refine (markPool_nil _).mono ?_
  rintro e w4 ⟨rfl, hb⟩
  replace B := B.below hb
  replace D := D.below hb
  replace hw := hw.trans (hb.mono hw.size)
  clear hb
  clear d0 d2
  obtain ⟨d0, d2⟩ := D.box2
  go_wp2_with fail
  refine (heldPool_nil _).mono ?_
  rintro e w5 ⟨rfl, hb⟩
  replace B := B.below hb
  replace D := D.below hb
  replace hw := hw.trans (hb.mono hw.size)
  clear hb
  clear d0 d2
  go_wp2_with fail
  refine (impl_PoolNew_out n hn.out _).mono ?_
  rintro e w6 ⟨rfl, hb⟩
  replace B := B.below hb
  replace D := D.below hb
  replace hw := hw.trans (hb.mono hw.size)
  clear hb
  go_upto_region 14 with fail
  obtain ⟨W3, hW⟩ : ∃ W, W = w6.alloc (.cells #[.slice none 0 0, .slice none 0 0] 38) := ⟨_, rfl⟩
  rw [← hW]
  have hb : Below w6.heap.size w6 W3 := by rw [hW]; go_grown
  have E : RowAt W3 w6.heap.size 0 [.slice none 0 0, .slice none 0 0] := by rw [hW]; exact RowAt.box w6 #[_, _] _
  replace B := B.below hb
  replace D := D.below hb
  replace hw := hw.trans (hb.mono hw.size)
  clear hW hb
  obtain ⟨b0, b1⟩ := B.box2
  obtain ⟨q0, q1⟩ := E.box2
  go_wp2_with fail
  refine (eqNil _).mono ?_
  rintro e w7 ⟨rfl, hb⟩
  replace D := D.below hb
  replace hw := hw.trans (hb.mono hw.size)
  clear hb
  clear b0 b1 q0 q1 B E
  obtain ⟨d0, d2⟩ := D.box2
  go_wp2_with fail
  refine (heldPool_nil _).mono ?_
  rintro e w8 ⟨rfl, hb⟩
  replace hw := hw.trans (hb.mono hw.size)
  clear hb
  go_wp2_with fail
  go_returns
  exact ⟨rfl, hw⟩

theorem law (n : Int) (w : World) :
    Calls Try.prog 5 #[.int .i64 n] w fun en w' => en = .returned (.bool true) ∧ Below w.heap.size w w' := by
  by_cases h : n < 0 ∨ 4000 < n
  · exact law_out n h w
  · obtain ⟨N, rfl⟩ : ∃ N : Nat, n = N := ⟨n.toNat, by omega⟩
    exact law_in N (by omega) w
end fnExactPoolNew
end Go.Proofs.Ytakpmnagdpiceaa
