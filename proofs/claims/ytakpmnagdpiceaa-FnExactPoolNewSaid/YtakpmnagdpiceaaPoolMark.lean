/- markPool, heldPool. -/
import Derived.Test.YtakpmnagdpiceaaPoolNew
namespace Go.Proofs.Ytakpmnagdpiceaa
open Go.RowKit
set_option linter.unusedVariables false
set_option linter.unusedSimpArgs false
attribute [local go_sem] Ext.cell

set_option maxHeartbeats 1000000 in
theorem markIntS_nil (z : Int) (w : World) :
    Calls Try.prog 43 #[.slice none 0 0, .int .i64 z] w fun e w' => e = .returned (.int .i64 z) ∧ Below w.heap.size w w' := by
  go_enter Try.func43, Try.ntmps43
  go_wp2_with fail
  go_loopw [1, 5] (fun kk i wr => kk = .int .i64 z ∧ i = .int .i64 0 ∧ Below w.heap.size w wr) (fun _ _ _ => 0)
  case atStart => exact ⟨rfl, rfl, Below.refl _ _⟩
  case round =>
    obtain ⟨rfl, rfl, hw⟩ := hrel
    go_wp2
    go_returns
    exact ⟨rfl, hw⟩
set_option maxHeartbeats 1000000 in
theorem heldIntS_nil (z : Int) (w : World) :
    Calls Try.prog 45 #[.slice none 0 0, .int .i64 z] w fun e w' => e = .returned (.int .i64 z) ∧ Below w.heap.size w w' := by
  go_enter Try.func45, Try.ntmps45
  go_wp2_with fail
  go_loopw [1, 5] (fun kk i wr => kk = .int .i64 z ∧ i = .int .i64 0 ∧ Below w.heap.size w wr) (fun _ _ _ => 0)
  case atStart => exact ⟨rfl, rfl, Below.refl _ _⟩
  case round =>
    obtain ⟨rfl, rfl, hw⟩ := hrel
    go_wp2
    go_returns
    exact ⟨rfl, hw⟩

/-- A marked slice of numbers, nil or not. -/
def MkInts (w : World) (v : Value) (N k : Nat) : Prop := (v = .slice none 0 0 ∧ N = 0) ∨ ∃ g cap, v = .slice (some ⟨g, 0, none⟩) N cap ∧ Mk w g 0 N (mkInt k)
theorem MkInts.below {w w' : World} {v : Value} {N k : Nat} (h : MkInts w v N k) (hb : Below w.heap.size w w') : MkInts w' v N k := by
  rcases h with h | ⟨g, cap, hv, hM⟩
  · exact .inl h
  · exact .inr ⟨g, cap, hv, hM.below hb⟩
theorem markInts_c (v : Value) (N k lo : Nat) (z r : Int) (hz : z = k) (hr : r = z + N) (hk : k + N ≤ 4611686018427387904) (xs : List Value) (w : World) (O : w.ownsRow lo 3 1 v N xs) (hlo : lo ≤ w.heap.size) :
    Calls Try.prog 43 #[v, .int .i64 z] w fun e w' => e = .returned (.int .i64 r) ∧ MkInts w' v N k ∧ Below lo w w' ∧ Kept (fun q => v.ownBlock = some q) w w' := by
  subst hr
  subst hz
  have hb := own_base O
  rcases O.2 with ⟨rfl, rfl⟩ | ⟨g, cap, cur, rfl, h1, h2, h3, h4, h5, h6⟩
  · exact (markIntS_nil k w).mono fun e w' ⟨he, hb⟩ => ⟨by rw [he]; simp, .inl ⟨rfl, rfl⟩, hb.mono hlo, Kept.below hb⟩
  · have hW : Wr w g 0 N := fun j hj => by
      have hjc : j < cur.size := by omega
      refine ⟨cur[j], ?_, ?_⟩
      · rw [cell_of_row w g _ cur 3 (0, 0) h2, Nat.zero_add, Array.getElem?_eq_getElem hjc]
      · simp [World.frozen?, h2]
    refine (markIntS_c g 0 N cap k lo h1 hk w (hb g rfl).2 hW).mono fun e w' ⟨he, hM, hB, hK⟩ => ⟨by rw [he]; simp, .inr ⟨g, cap, rfl, hM⟩, hB, fun q h1 h2 => hK q h1 (fun e => h2 (by rw [e]; rfl))⟩
theorem heldInts_c (v : Value) (N k : Nat) (z r : Int) (hz : z = k) (hr : r = z + N) (hk : k + N ≤ 4611686018427387904) (w : World) (h : MkInts w v N k) :
    Calls Try.prog 45 #[v, .int .i64 z] w fun e w' => e = .returned (.int .i64 r) ∧ Below w.heap.size w w' := by
  subst hr
  subst hz
  rcases h with ⟨rfl, rfl⟩ | ⟨g, cap, rfl, hM⟩
  · exact (heldIntS_nil k w).mono fun e w' ⟨he, hb⟩ => ⟨by rw [he]; simp, hb⟩
  · exact (heldIntS_c g 0 N cap k hk w hM).mono fun e w' ⟨he, hb⟩ => ⟨by rw [he]; simp, hb⟩

theorem Kept.mono {S S' : Nat → Prop} {w w' : World} (h : Kept S w w') (hS : ∀ k, S k → S' k) : Kept S' w w' := fun k h1 h2 => h k h1 (fun h3 => h2 (hS k h3))
theorem PoolIs.kept {S : Nat → Prop} {w w' : World} {c lo N : Nat} {v : Value} (h : PoolIs w c lo N v) (hk : Kept S w w') (hs : w.heap.size ≤ w'.heap.size) (hc : ¬ S c) (hv : ∀ g, v.ownBlock = some g → ¬ S g) : PoolIs w' c lo N v :=
  ⟨h.1.kept hk hc, fun j hj => (h.2.1 j hj).kept hk hc, own_kept h.2.2.1 hk hv, h.2.2.2.1, Nat.le_trans h.2.2.2.2 hs⟩
theorem PoolIs.below {w w' : World} {c lo N : Nat} {v : Value} (h : PoolIs w c lo N v) (hb : Below w.heap.size w w') : PoolIs w' c lo N v :=
  h.kept (S := fun _ => False) (Kept.below hb) hb.size (fun h => h) (fun _ _ h => h)
/-- A marked pool. -/
def MkPool (w : World) (c N : Nat) (v : Value) : Prop := Mk w c 0 (N * 9) (mkCell 1) ∧ MkInts w v N (1 + N * 9)
theorem MkPool.below {w w' : World} {c N : Nat} {v : Value} (h : MkPool w c N v) (hb : Below w.heap.size w w') : MkPool w' c N v := ⟨h.1.below hb, h.2.below hb⟩

set_option maxRecDepth 100000 in
set_option maxHeartbeats 2000000 in
theorem markPool_c (c N lo : Nat) (v : Value) (hN : N ≤ 4000) (w : World) (h : PoolIs w c lo N v) :
    Calls Try.prog 22 #[.agg #[.slice (some ⟨c, 0, none⟩) N N, v], .int .i64 1] w fun e w' => e = .returned (.int .i64 (1 + (N : Int) * 9 + N)) ∧ MkPool w' c N v ∧ Below c w w' ∧ Kept (fun q => q = c ∨ v.ownBlock = some q) w w' := by
  obtain ⟨hWC, hRC, O, hc, hlo⟩ := h
  clear hRC
  obtain ⟨va, vn, vc, rfl⟩ : ∃ a n c, v = .slice a n c := by rcases O.2 with ⟨rfl, _⟩ | ⟨_, _, _, rfl, _⟩ <;> exact ⟨_, _, _, rfl⟩
  have hob := own_base O
  go_enter Try.func22, Try.ntmps22
  go_upto_region 1 with fail
  have B : RowAt (w.alloc (.cells #[.slice (some ⟨c, 0, none⟩) N N, .slice va vn vc] 38)) (w.heap.size) 0 [.slice (some ⟨c, 0, none⟩) N N, .slice va vn vc] := RowAt.box w #[.slice (some ⟨c, 0, none⟩) N N, .slice va vn vc] 38
  have hw : Below w.heap.size w (w.alloc (.cells #[.slice (some ⟨c, 0, none⟩) N N, .slice va vn vc] 38)) := by go_grown
  generalize (w.alloc (.cells #[.slice (some ⟨c, 0, none⟩) N N, .slice va vn vc] 38)) = w0 at *
  have hWC := (hWC.below hw)
  have O := (own_below O hw)
  have hz := hw.size
  obtain ⟨b_0, b_1⟩ := B.box2; have hsB := World.block_lt_of_cell? _ _ b_0; dsimp only at hsB
  replace hob := Lib.hid hob
  go_wp2_with fail
  refine (show Calls Try.prog 42 #[.slice (some ⟨c, 0, none⟩) N N, .int .i64 1] w0 (fun e w' => e = .returned (.int .i64 (1 + (N : Int) * 9)) ∧ Mk w' c 0 (N * 9) (mkCell 1) ∧ Below c w0 w' ∧ Kept (· = c) w0 w') from (markCellS_c c 0 N N 1 c (Nat.le_refl _) (by omega) w0 (by omega) hWC).mono fun e w' ⟨he, h⟩ => ⟨by rw [he]; congr 2 <;> omega, h⟩).mono ?_
  rintro e w1 ⟨rfl, hM, hb1, hk1⟩
  replace B := B.kept hk1 (by omega)
  have O1 := own_kept O hk1 (fun g hg e => by have := (hob.out g hg).1; omega)
  have hw1 : Below c w w1 := (hw.mono (by omega)).trans hb1
  have hz1 := hb1.size
  have K1 : Kept (fun q => q = c ∨ (Value.slice va vn vc).ownBlock = some q) w w1 := (Kept.below hw).trans hz (hk1.mono (fun k h => .inl h))
  replace K1 := Lib.hid K1
  clear hk1 hb1 O hWC b_0 b_1 hsB
  obtain ⟨b_0, b_1⟩ := B.box2; have hsB := World.block_lt_of_cell? _ _ b_0; dsimp only at hsB
  go_wp2_with fail
  refine (markInts_c (.slice va vn vc) N (1 + N * 9) lo (1 + (N : Int) * 9) (1 + (N : Int) * 9 + N) (by omega) rfl (by omega) _ w1 O1 (by omega)).mono ?_
  rintro e w2 ⟨rfl, hI, hb2, hk2⟩
  replace hM := hM.kept hk2 (fun e => by have := (hob.out c e).1; omega)
  have hw2 := hw1.trans (hb2.mono (by omega))
  have K2 := Lib.hid (K1.out.trans (Nat.le_trans hz hz1) (hk2.mono (fun k h => .inr h)))
  clear hk2 hb2 O1 b_0 b_1 hsB
  go_wp2
  go_returns
  exact ⟨rfl, ⟨hM, hI⟩, hw2, K2.out⟩

set_option maxRecDepth 100000 in
set_option maxHeartbeats 2000000 in
theorem heldPool_c (c N : Nat) (v : Value) (hN : N ≤ 4000) (w : World) (h : MkPool w c N v) :
    Calls Try.prog 23 #[.agg #[.slice (some ⟨c, 0, none⟩) N N, v], .int .i64 1] w fun e w' => e = .returned (.int .i64 (1 + (N : Int) * 9 + N)) ∧ Below w.heap.size w w' := by
  obtain ⟨hM, hI⟩ := h
  obtain ⟨va, vn, vc, rfl⟩ : ∃ a n c, v = .slice a n c := by rcases hI with ⟨rfl, _⟩ | ⟨_, _, rfl, _⟩ <;> exact ⟨_, _, _, rfl⟩
  have d1 : decide (1 + (N : Int) * 9 < 0) = false := decide_eq_false (by omega)
  have d2 : decide (1 + (N : Int) * 9 + N < 0) = false := decide_eq_false (by omega)
  go_enter Try.func23, Try.ntmps23
  go_upto_region 1 with fail
  have B : RowAt (w.alloc (.cells #[.slice (some ⟨c, 0, none⟩) N N, .slice va vn vc] 38)) (w.heap.size) 0 [.slice (some ⟨c, 0, none⟩) N N, .slice va vn vc] := RowAt.box w #[.slice (some ⟨c, 0, none⟩) N N, .slice va vn vc] 38
  have hw : Below w.heap.size w (w.alloc (.cells #[.slice (some ⟨c, 0, none⟩) N N, .slice va vn vc] 38)) := by go_grown
  generalize (w.alloc (.cells #[.slice (some ⟨c, 0, none⟩) N N, .slice va vn vc] 38)) = w0 at *
  have hM := hM.below hw
  have hI := Lib.hid (hI.below hw)
  obtain ⟨b_0, b_1⟩ := B.box2; have hsB := World.block_lt_of_cell? _ _ b_0; dsimp only at hsB
  go_wp2_with fail
  refine (show Calls Try.prog 44 #[.slice (some ⟨c, 0, none⟩) N N, .int .i64 1] w0 (fun e w' => e = .returned (.int .i64 (1 + (N : Int) * 9)) ∧ Below w0.heap.size w0 w') from (heldCellS_c c 0 N N 1 (by omega) w0 hM).mono fun e w' ⟨he, h⟩ => ⟨by rw [he]; congr 2 <;> omega, h⟩).mono ?_
  rintro e w1 ⟨rfl, hb⟩
  replace hI := Lib.hid (hI.out.below hb)
  have hw := hw.trans (hb.mono hw.size); have B := B.below hb; obtain ⟨b_0, b_1⟩ := B.box2; have hsB := World.block_lt_of_cell? _ _ b_0; dsimp only at hsB; clear hb
  go_wp2_with fail
  refine (heldInts_c (.slice va vn vc) N (1 + N * 9) (1 + (N : Int) * 9) (1 + (N : Int) * 9 + N) (by omega) rfl (by omega) w1 hI.out).mono ?_
  rintro e w2 ⟨rfl, hb⟩
  have hw := hw.trans (hb.mono hw.size)
  go_wp2
  go_returns
  exact ⟨rfl, hw⟩

end Go.Proofs.Ytakpmnagdpiceaa
