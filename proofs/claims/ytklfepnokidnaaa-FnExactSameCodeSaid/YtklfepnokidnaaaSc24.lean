/- Parts of the proof, merged: PText4. -/
import Derived.Deep.RegionHeld3
import Derived.Test.YtklfepnokidnaaaSc23
/- The text of a pattern: the reference's l04Pat. -/
namespace Go.Proofs.Ytklfepnokidnaaa
open Go.RowKit
set_option linter.unusedVariables false
set_option linter.unusedSimpArgs false
attribute [local go_sem] Ext.cell

set_option maxRecDepth 100000 in
set_option maxHeartbeats 4000000 in
theorem pstext_leaf (nb no N nc i : Nat) (kd n : Int) (s : ByteArray) (ka : Option Addr) (m kc : Nat) (w : World) (hi : i < N) (hN : N ≤ 600) (hr : RowAt w nb (no + i * 4) [.int .i64 kd, .int .i64 n, .string s, .slice ka m kc]) (hn : I64 n) (hs : s.size ≤ 1073741824) (r : ByteArray)
    (hk : (kd = 1 ∧ r = bWild) ∨ (kd = 3 ∧ r = numText n) ∨ (kd = 2 ∧ r = s) ∨ (kd = 6 ∧ r = bUnit) ∨ (kd = 4 ∧ m = 0 ∧ r = s)) :
    Calls Try.prog 30 #[.agg #[.slice (some ⟨nb, no, none⟩) N nc], .int .i64 i] w fun e w' => e = .returned (.string r) ∧ Below w.heap.size w w' := by
  obtain ⟨e0, e1, e2, e3⟩ := hr.cells4
  have hb0 := World.block_lt_of_cell? _ _ e0
  dsimp only at hb0
  clear hr
  rcases hk with ⟨rfl, rfl⟩ | ⟨rfl, rfl⟩ | ⟨rfl, rfl⟩ | ⟨rfl, rfl⟩ | ⟨rfl, rfl, rfl⟩
  · go_enter Try.func30, Try.ntmps30
    go_wp2_with fail
    go_returns
    exact ⟨rfl, by go_grown⟩
  · have c1 := fun W => spec_NumText_c n hn W
    generalize numText n = t at *
    go_enter Try.func30, Try.ntmps30
    go_upto_region 2 with fail
    have D : RowAt (w.alloc (.cells #[.slice (some ⟨nb, no, none⟩) N nc] 41)) (w.heap.size) 0 [.slice (some ⟨nb, no, none⟩) N nc] := RowAt.box w #[.slice (some ⟨nb, no, none⟩) N nc] 41
    have D := D.below (show Below (w.alloc (.cells #[.slice (some ⟨nb, no, none⟩) N nc] 41)).heap.size (w.alloc (.cells #[.slice (some ⟨nb, no, none⟩) N nc] 41)) ((w.alloc (.cells #[.slice (some ⟨nb, no, none⟩) N nc] 41)).alloc (.cells #[.int .i64 3, .int .i64 n, .string s, .slice ka m kc] 77)) by go_grown)
    have M : RowAt ((w.alloc (.cells #[.slice (some ⟨nb, no, none⟩) N nc] 41)).alloc (.cells #[.int .i64 3, .int .i64 n, .string s, .slice ka m kc] 77)) (w.heap.size + 1) 0 [.int .i64 3, .int .i64 n, .string s, .slice ka m kc] := by have h := RowAt.box (w.alloc (.cells #[.slice (some ⟨nb, no, none⟩) N nc] 41)) #[.int .i64 3, .int .i64 n, .string s, .slice ka m kc] 77; simp only [World.size_alloc] at h; exact h
    have hw : Below w.heap.size w ((w.alloc (.cells #[.slice (some ⟨nb, no, none⟩) N nc] 41)).alloc (.cells #[.int .i64 3, .int .i64 n, .string s, .slice ka m kc] 77)) := by go_grown
    generalize ((w.alloc (.cells #[.slice (some ⟨nb, no, none⟩) N nc] 41)).alloc (.cells #[.int .i64 3, .int .i64 n, .string s, .slice ka m kc] 77)) = w0 at *
    have d_0 := D.box1; have hsD := World.block_lt_of_cell? _ _ d_0; dsimp only at hsD; obtain ⟨m_0, m_1, m_2, m_3⟩ := M.box4; have hsM := World.block_lt_of_cell? _ _ m_0; dsimp only at hsM
    go_wp2_with (go_at_call 27; ((with_reducible refine (c1 _).mono ?_); rintro e w1 ⟨rfl, hb⟩; have hw := hw.trans (hb.mono hw.size); have D := D.below hb; have d_0 := D.box1; have hsD := World.block_lt_of_cell? _ _ d_0; dsimp only at hsD; clear hb))
    go_returns
    exact ⟨rfl, hw⟩
  · go_enter Try.func30, Try.ntmps30
    go_wp2_with fail
    go_returns
    exact ⟨rfl, by go_grown⟩
  · go_enter Try.func30, Try.ntmps30
    go_wp2_with fail
    go_returns
    exact ⟨rfl, by go_grown⟩
  · go_enter Try.func30, Try.ntmps30
    go_wp2_with fail
    go_returns
    exact ⟨rfl, by go_grown⟩

set_option maxRecDepth 100000 in
set_option maxHeartbeats 4000000 in
theorem pstext_pair (nb no N nc i kb ko kc : Nat) (j0 j1 n : Int) (s A B : ByteArray) (w : World) (hi : i < N) (hN : N ≤ 600) (hr : RowAt w nb (no + i * 4) [.int .i64 5, .int .i64 n, .string s, .slice (some ⟨kb, ko, none⟩) 2 kc])
    (p0 : w.cell? ⟨kb, ko, none⟩ = some (.int .i64 j0)) (p1 : w.cell? ⟨kb, ko + 1, none⟩ = some (.int .i64 j1)) (hA : A.size ≤ 1073741824) (hB : B.size ≤ 1073741824)
    (cA : ∀ W, Below w.heap.size w W → Calls Try.prog 30 #[.agg #[.slice (some ⟨nb, no, none⟩) N nc], .int .i64 j0] W fun e w' => e = .returned (.string A) ∧ Below W.heap.size W w')
    (cB : ∀ W, Below w.heap.size w W → Calls Try.prog 30 #[.agg #[.slice (some ⟨nb, no, none⟩) N nc], .int .i64 j1] W fun e w' => e = .returned (.string B) ∧ Below W.heap.size W w') :
    Calls Try.prog 30 #[.agg #[.slice (some ⟨nb, no, none⟩) N nc], .int .i64 i] w fun e w' => e = .returned (.string (bParen ++ A ++ bComma ++ B ++ bClose)) ∧ Below w.heap.size w w' := by
  obtain ⟨e0, e1, e2, e3⟩ := hr.cells4
  have hb0 := World.block_lt_of_cell? _ _ e0
  have hb1 := World.block_lt_of_cell? _ _ p0
  dsimp only at hb0 hb1
  have l1 : (9223372036854775807 < 1 + A.size) = False := by simp; omega
  have l2 : (9223372036854775807 < 1 + A.size + 2) = False := by simp; omega
  have l3 : (9223372036854775807 < 1 + A.size + 2 + B.size) = False := by simp; omega
  have l4 : (9223372036854775807 < 1 + A.size + 2 + B.size + 1) = False := by simp; omega
  replace cA := Lib.hid cA; replace cB := Lib.hid cB
  clear hr
  go_enter Try.func30, Try.ntmps30
  go_upto_region 2 with fail
  have D : RowAt (w.alloc (.cells #[.slice (some ⟨nb, no, none⟩) N nc] 41)) (w.heap.size) 0 [.slice (some ⟨nb, no, none⟩) N nc] := RowAt.box w #[.slice (some ⟨nb, no, none⟩) N nc] 41
  have D := D.below (show Below (w.alloc (.cells #[.slice (some ⟨nb, no, none⟩) N nc] 41)).heap.size (w.alloc (.cells #[.slice (some ⟨nb, no, none⟩) N nc] 41)) ((w.alloc (.cells #[.slice (some ⟨nb, no, none⟩) N nc] 41)).alloc (.cells #[.int .i64 5, .int .i64 n, .string s, .slice (some ⟨kb, ko, none⟩) 2 kc] 77)) by go_grown)
  have M : RowAt ((w.alloc (.cells #[.slice (some ⟨nb, no, none⟩) N nc] 41)).alloc (.cells #[.int .i64 5, .int .i64 n, .string s, .slice (some ⟨kb, ko, none⟩) 2 kc] 77)) (w.heap.size + 1) 0 [.int .i64 5, .int .i64 n, .string s, .slice (some ⟨kb, ko, none⟩) 2 kc] := by have h := RowAt.box (w.alloc (.cells #[.slice (some ⟨nb, no, none⟩) N nc] 41)) #[.int .i64 5, .int .i64 n, .string s, .slice (some ⟨kb, ko, none⟩) 2 kc] 77; simp only [World.size_alloc] at h; exact h
  have hw : Below w.heap.size w ((w.alloc (.cells #[.slice (some ⟨nb, no, none⟩) N nc] 41)).alloc (.cells #[.int .i64 5, .int .i64 n, .string s, .slice (some ⟨kb, ko, none⟩) 2 kc] 77)) := by go_grown
  generalize ((w.alloc (.cells #[.slice (some ⟨nb, no, none⟩) N nc] 41)).alloc (.cells #[.int .i64 5, .int .i64 n, .string s, .slice (some ⟨kb, ko, none⟩) 2 kc] 77)) = w0 at *
  have d_0 := D.box1; have hsD := World.block_lt_of_cell? _ _ d_0; dsimp only at hsD; obtain ⟨m_0, m_1, m_2, m_3⟩ := M.box4; have hsM := World.block_lt_of_cell? _ _ m_0; dsimp only at hsM
  have hK := hw
  have p0 := cell_below hw p0
  have p1 := cell_below hw p1
  go_wp2_with fail
  go_region_held3 (fun w' => w'.cell? ⟨w.heap.size, 0, none⟩ = some (.slice (some ⟨nb, no, none⟩) N nc) ∧ w'.cell? ⟨w.heap.size + 1, 3, none⟩ = some (.slice (some ⟨kb, ko, none⟩) 2 kc) ∧ w'.cell? ⟨kb, ko, none⟩ = some (.int .i64 j0) ∧ w'.cell? ⟨kb, ko + 1, none⟩ = some (.int .i64 j1))
    (first | go_keep | (refine ⟨cell_below hb ?_, cell_below hb ?_, cell_below hb ?_, cell_below hb ?_⟩ <;> go_keep))
    (first
      | (go_at_call 30; ((with_reducible refine (cA.out _ (by go_grown)).mono ?_); rintro e w1 ⟨rfl, hb⟩; have hK : Below w.heap.size w w1 := Below.trans (by go_grown) (hb.mono (by have := hK.size; first | (simp; omega) | omega))))
      | (go_at_call 30; ((with_reducible refine (cB.out _ (by go_grown)).mono ?_); rintro e w1 ⟨rfl, hb⟩; have hK : Below w.heap.size w w1 := Below.trans (by go_grown) (hb.mono (by have := hK.size; first | (simp; omega) | omega)))))
  all_goals go_wp2_with fail
  all_goals go_returns
  all_goals exact ⟨rfl, hK⟩

set_option maxRecDepth 100000 in
set_option maxHeartbeats 4000000 in
theorem pstext_con (nb no N nc i kb ko kc : Nat) (j0 n : Int) (s A : ByteArray) (w : World) (hi : i < N) (hN : N ≤ 600) (hr : RowAt w nb (no + i * 4) [.int .i64 4, .int .i64 n, .string s, .slice (some ⟨kb, ko, none⟩) 1 kc])
    (p0 : w.cell? ⟨kb, ko, none⟩ = some (.int .i64 j0)) (hs : (s.toList == sCons) = false) (hss : s.size ≤ 1073741824) (hA : A.size ≤ 1073741824)
    (cA : ∀ W, Below w.heap.size w W → Calls Try.prog 30 #[.agg #[.slice (some ⟨nb, no, none⟩) N nc], .int .i64 j0] W fun e w' => e = .returned (.string A) ∧ Below W.heap.size W w') :
    Calls Try.prog 30 #[.agg #[.slice (some ⟨nb, no, none⟩) N nc], .int .i64 i] w fun e w' => e = .returned (.string (bParen ++ s ++ bSpace ++ A ++ bClose)) ∧ Below w.heap.size w w' := by
  obtain ⟨e0, e1, e2, e3⟩ := hr.cells4
  have hb0 := World.block_lt_of_cell? _ _ e0
  have hb1 := World.block_lt_of_cell? _ _ p0
  dsimp only at hb0 hb1
  unfold sCons at hs
  have l1 : (9223372036854775807 < 1 + s.size) = False := by simp; omega
  have l2 : (9223372036854775807 < 1 + s.size + 1) = False := by simp; omega
  have l3 : (9223372036854775807 < 1 + s.size + 1 + A.size) = False := by simp; omega
  have l4 : (9223372036854775807 < 1 + s.size + 1 + A.size + 1) = False := by simp; omega
  replace cA := Lib.hid cA
  clear hr
  go_enter Try.func30, Try.ntmps30
  go_upto_region 2 with fail
  have D : RowAt (w.alloc (.cells #[.slice (some ⟨nb, no, none⟩) N nc] 41)) (w.heap.size) 0 [.slice (some ⟨nb, no, none⟩) N nc] := RowAt.box w #[.slice (some ⟨nb, no, none⟩) N nc] 41
  have D := D.below (show Below (w.alloc (.cells #[.slice (some ⟨nb, no, none⟩) N nc] 41)).heap.size (w.alloc (.cells #[.slice (some ⟨nb, no, none⟩) N nc] 41)) ((w.alloc (.cells #[.slice (some ⟨nb, no, none⟩) N nc] 41)).alloc (.cells #[.int .i64 4, .int .i64 n, .string s, .slice (some ⟨kb, ko, none⟩) 1 kc] 77)) by go_grown)
  have M : RowAt ((w.alloc (.cells #[.slice (some ⟨nb, no, none⟩) N nc] 41)).alloc (.cells #[.int .i64 4, .int .i64 n, .string s, .slice (some ⟨kb, ko, none⟩) 1 kc] 77)) (w.heap.size + 1) 0 [.int .i64 4, .int .i64 n, .string s, .slice (some ⟨kb, ko, none⟩) 1 kc] := by have h := RowAt.box (w.alloc (.cells #[.slice (some ⟨nb, no, none⟩) N nc] 41)) #[.int .i64 4, .int .i64 n, .string s, .slice (some ⟨kb, ko, none⟩) 1 kc] 77; simp only [World.size_alloc] at h; exact h
  have hw : Below w.heap.size w ((w.alloc (.cells #[.slice (some ⟨nb, no, none⟩) N nc] 41)).alloc (.cells #[.int .i64 4, .int .i64 n, .string s, .slice (some ⟨kb, ko, none⟩) 1 kc] 77)) := by go_grown
  generalize ((w.alloc (.cells #[.slice (some ⟨nb, no, none⟩) N nc] 41)).alloc (.cells #[.int .i64 4, .int .i64 n, .string s, .slice (some ⟨kb, ko, none⟩) 1 kc] 77)) = w0 at *
  have d_0 := D.box1; have hsD := World.block_lt_of_cell? _ _ d_0; dsimp only at hsD; obtain ⟨m_0, m_1, m_2, m_3⟩ := M.box4; have hsM := World.block_lt_of_cell? _ _ m_0; dsimp only at hsM
  have hK := hw
  have p0 := cell_below hw p0
  go_wp2_with fail
  go_region_held3 (fun w' => w'.cell? ⟨w.heap.size, 0, none⟩ = some (.slice (some ⟨nb, no, none⟩) N nc) ∧ w'.cell? ⟨w.heap.size + 1, 2, none⟩ = some (.string s) ∧ w'.cell? ⟨w.heap.size + 1, 3, none⟩ = some (.slice (some ⟨kb, ko, none⟩) 1 kc) ∧ w'.cell? ⟨kb, ko, none⟩ = some (.int .i64 j0))
    (first | go_keep | (refine ⟨cell_below hb ?_, cell_below hb ?_, cell_below hb ?_, cell_below hb ?_⟩ <;> go_keep))
    ((go_at_call 30; ((with_reducible refine (cA.out _ (by go_grown)).mono ?_); rintro e w1 ⟨rfl, hb⟩; have hK : Below w.heap.size w w1 := Below.trans (by go_grown) (hb.mono (by have := hK.size; first | (simp; omega) | omega)))))
  all_goals go_wp2_with fail
  all_goals go_returns
  all_goals exact ⟨rfl, hK⟩


set_option maxRecDepth 100000 in
set_option maxHeartbeats 8000000 in
theorem pstext_cons (nb no N nc i j kb ko kc kb2 ko2 kc2 : Nat) (j0 j1 n n5 : Int) (s s5 A B : ByteArray) (w : World) (hi : i < N) (hj : j < N) (hN : N ≤ 600) (hr : RowAt w nb (no + i * 4) [.int .i64 4, .int .i64 n, .string s, .slice (some ⟨kb, ko, none⟩) 1 kc])
    (hr5 : RowAt w nb (no + j * 4) [.int .i64 5, .int .i64 n5, .string s5, .slice (some ⟨kb2, ko2, none⟩) 2 kc2]) (p : w.cell? ⟨kb, ko, none⟩ = some (.int .i64 j)) (hs : (s.toList == sCons) = true)
    (p0 : w.cell? ⟨kb2, ko2, none⟩ = some (.int .i64 j0)) (p1 : w.cell? ⟨kb2, ko2 + 1, none⟩ = some (.int .i64 j1)) (hA : A.size ≤ 1073741824) (hB : B.size ≤ 1073741824)
    (cA : ∀ W, Below w.heap.size w W → Calls Try.prog 30 #[.agg #[.slice (some ⟨nb, no, none⟩) N nc], .int .i64 j0] W fun e w' => e = .returned (.string A) ∧ Below W.heap.size W w')
    (cB : ∀ W, Below w.heap.size w W → Calls Try.prog 30 #[.agg #[.slice (some ⟨nb, no, none⟩) N nc], .int .i64 j1] W fun e w' => e = .returned (.string B) ∧ Below W.heap.size W w') :
    Calls Try.prog 30 #[.agg #[.slice (some ⟨nb, no, none⟩) N nc], .int .i64 i] w fun e w' => e = .returned (.string (bParen ++ A ++ bColons ++ B ++ bClose)) ∧ Below w.heap.size w w' := by
  obtain ⟨e0, e1, e2, e3⟩ := hr.cells4
  have hb0 := World.block_lt_of_cell? _ _ e0
  dsimp only at hb0
  unfold sCons at hs
  have l1 : (9223372036854775807 < 1 + A.size) = False := by simp; omega
  have l2 : (9223372036854775807 < 1 + A.size + 4) = False := by simp; omega
  have l3 : (9223372036854775807 < 1 + A.size + 4 + B.size) = False := by simp; omega
  have l4 : (9223372036854775807 < 1 + A.size + 4 + B.size + 1) = False := by simp; omega
  have i0 : (0 : Int) ≤ (j : Int) := by omega
  have i1 : (j : Int) < (N : Int) := by omega
  replace cA := Lib.hid cA; replace cB := Lib.hid cB
  clear hr
  go_enter Try.func30, Try.ntmps30
  go_upto_region 2 with fail
  have D : RowAt (w.alloc (.cells #[.slice (some ⟨nb, no, none⟩) N nc] 41)) (w.heap.size) 0 [.slice (some ⟨nb, no, none⟩) N nc] := RowAt.box w #[.slice (some ⟨nb, no, none⟩) N nc] 41
  have D := D.below (show Below (w.alloc (.cells #[.slice (some ⟨nb, no, none⟩) N nc] 41)).heap.size (w.alloc (.cells #[.slice (some ⟨nb, no, none⟩) N nc] 41)) ((w.alloc (.cells #[.slice (some ⟨nb, no, none⟩) N nc] 41)).alloc (.cells #[.int .i64 4, .int .i64 n, .string s, .slice (some ⟨kb, ko, none⟩) 1 kc] 77)) by go_grown)
  have M : RowAt ((w.alloc (.cells #[.slice (some ⟨nb, no, none⟩) N nc] 41)).alloc (.cells #[.int .i64 4, .int .i64 n, .string s, .slice (some ⟨kb, ko, none⟩) 1 kc] 77)) (w.heap.size + 1) 0 [.int .i64 4, .int .i64 n, .string s, .slice (some ⟨kb, ko, none⟩) 1 kc] := by have h := RowAt.box (w.alloc (.cells #[.slice (some ⟨nb, no, none⟩) N nc] 41)) #[.int .i64 4, .int .i64 n, .string s, .slice (some ⟨kb, ko, none⟩) 1 kc] 77; simp only [World.size_alloc] at h; exact h
  have hw : Below w.heap.size w ((w.alloc (.cells #[.slice (some ⟨nb, no, none⟩) N nc] 41)).alloc (.cells #[.int .i64 4, .int .i64 n, .string s, .slice (some ⟨kb, ko, none⟩) 1 kc] 77)) := by go_grown
  generalize ((w.alloc (.cells #[.slice (some ⟨nb, no, none⟩) N nc] 41)).alloc (.cells #[.int .i64 4, .int .i64 n, .string s, .slice (some ⟨kb, ko, none⟩) 1 kc] 77)) = w0 at *
  have d_0 := D.box1; have hsD := World.block_lt_of_cell? _ _ d_0; dsimp only at hsD; obtain ⟨m_0, m_1, m_2, m_3⟩ := M.box4; have hsM := World.block_lt_of_cell? _ _ m_0; dsimp only at hsM
  have p := cell_below hw p
  have p0 := cell_below hw p0
  have p1 := cell_below hw p1
  obtain ⟨f0, f1, f2, f3⟩ := (hr5.below hw).cells4
  have hbp := World.block_lt_of_cell? _ _ p
  have hbp0 := World.block_lt_of_cell? _ _ p0
  have hbf := World.block_lt_of_cell? _ _ f0
  dsimp only at hbp hbp0 hbf
  clear e0 e1 e2 e3 hr5
  go_upto_region 16 with fail
  go_region_held3 (fun w' => w'.cell? ⟨w.heap.size, 0, none⟩ = some (.slice (some ⟨nb, no, none⟩) N nc) ∧ w'.cell? ⟨w.heap.size + 1, 3, none⟩ = some (.slice (some ⟨kb, ko, none⟩) 1 kc) ∧ w'.cell? ⟨kb, ko, none⟩ = some (.int .i64 j) ∧ w'.cell? ⟨nb, no + j * 4, none⟩ = some (.int .i64 5) ∧ w'.cell? ⟨nb, no + j * 4 + 1, none⟩ = some (.int .i64 n5) ∧ w'.cell? ⟨nb, no + j * 4 + 2, none⟩ = some (.string s5) ∧ w'.cell? ⟨nb, no + j * 4 + 3, none⟩ = some (.slice (some ⟨kb2, ko2, none⟩) 2 kc2)) (go_keep) (fail)
  go_upto_region 17 with fail
  obtain ⟨W, hW⟩ : ∃ W, W = (w0.alloc (.cells #[.int .i64 5, .int .i64 n5, .string s5, .slice (some ⟨kb2, ko2, none⟩) 2 kc2] 77)).drew := ⟨_, rfl⟩
  have hWb : Below w0.heap.size w0 W := by rw [hW]; go_grown
  have F : RowAt W w0.heap.size 0 [.int .i64 5, .int .i64 n5, .string s5, .slice (some ⟨kb2, ko2, none⟩) 2 kc2] := by rw [hW]; exact RowAt.box w0 #[_, _, _, _] _
  rw [← hW]
  have hK := hw.trans (hWb.mono hw.size)
  have D := D.below hWb
  have p0 := cell_below hWb p0
  have p1 := cell_below hWb p1
  clear hW hWb p f0 f1 f2 f3 hbp hbp0 hbf hb0 M m_0 m_1 m_2 m_3 hsM
  have d_0 := D.box1; have hsD := World.block_lt_of_cell? _ _ d_0; dsimp only at hsD; obtain ⟨f_0, f_1, f_2, f_3⟩ := F.box4; have hsF := World.block_lt_of_cell? _ _ f_0; dsimp only at hsF
  have hbp0 := World.block_lt_of_cell? _ _ p0
  dsimp only at hbp0
  go_region_held3 (fun w' => w'.cell? ⟨w.heap.size, 0, none⟩ = some (.slice (some ⟨nb, no, none⟩) N nc) ∧ w'.cell? ⟨w0.heap.size, 3, none⟩ = some (.slice (some ⟨kb2, ko2, none⟩) 2 kc2) ∧ w'.cell? ⟨kb2, ko2, none⟩ = some (.int .i64 j0) ∧ w'.cell? ⟨kb2, ko2 + 1, none⟩ = some (.int .i64 j1))
    (first | go_keep | (refine ⟨cell_below hb ?_, cell_below hb ?_, cell_below hb ?_, cell_below hb ?_⟩ <;> go_keep))
    (first
      | (go_at_call 30; ((with_reducible refine (cA.out _ (by go_grown)).mono ?_); rintro e w1 ⟨rfl, hb⟩; have hK : Below w.heap.size w w1 := Below.trans (by go_grown) (hb.mono (by have := hK.size; first | (simp; omega) | omega))))
      | (go_at_call 30; ((with_reducible refine (cB.out _ (by go_grown)).mono ?_); rintro e w1 ⟨rfl, hb⟩; have hK : Below w.heap.size w w1 := Below.trans (by go_grown) (hb.mono (by have := hK.size; first | (simp; omega) | omega)))))
  all_goals go_wp2_with fail
  all_goals go_returns
  all_goals exact ⟨rfl, hK⟩


theorem l04Pat_c (d : GData) (hU : Up d.nodes) (hL : d.nodes.length ≤ 600) : ∀ (f i : Nat), i < d.nodes.length → d.nodes.length ≤ i + f → PTOk f (treeOf d.nodes f i) → wt f (treeOf d.nodes f i) ≤ 1073741824 → ∀ (r : List Value) (lo : Nat) (w : World), GData.R lo w r d →
    Calls Try.prog 30 #[.agg r.toArray, .int .i64 i] w fun e w' => e = .returned (.string (ptextT f (treeOf d.nodes f i))) ∧ Below w.heap.size w w' := by
  intro f
  induction f using Nat.strongRecOn with
  | _ f ih =>
    intro i hi hf ht hw r lo w hr
    match f, ht, hw with
    | f + 1, ht, hw =>
      obtain ⟨u, rfl, -, hu⟩ := hr
      have Hu := hu
      obtain ⟨a, c, rfl, ul, um, h0⟩ := hu
      obtain ⟨nb, no, x, r1, _, rfl, P1, hx, R1⟩ := h0.get (Lib.hid rfl) hi
      have P1 := P1.out
      have hup := hU i x P1
      rw [treeOf_some P1] at ht hw ⊢
      obtain ⟨kd, n, s, ks⟩ := x
      obtain ⟨u0, rfl, hwf, hkd⟩ := hx
      obtain ⟨ka, kc, rfl, kl, km, k0⟩ := hkd
      have hn : I64 n := hwf.2.1
      obtain ⟨_, hk, hkids⟩ := ht
      have hwt : 4 * s.size + 30 + ((ks.map fun k => treeOf d.nodes f k.toNat).map (wt f)).sum ≤ 1073741824 := hw
      simp only [PxT.kind, PxT.n, PxT.s, PxT.kids] at *
      have HR : ∀ W, Below w.heap.size w W → GData.R lo W [.slice (some ⟨nb, no, none⟩) d.nodes.length c] d := fun W hW => ⟨_, rfl, trivial, Hu.below GDNode.good hW⟩
      rcases hk with ⟨e, hk⟩ | ⟨e, x, y, hk⟩ | ⟨e, hk | ⟨x, hk, hx5⟩⟩
      · rcases e with e | e | e | e
        · subst e; rw [ptextT_wild]
          exact pstext_leaf nb no d.nodes.length c i 1 n s ka _ kc w hi hL R1 hn (by omega) _ (.inl ⟨rfl, rfl⟩)
        · subst e; rw [ptextT_int]
          exact pstext_leaf nb no d.nodes.length c i 3 n s ka _ kc w hi hL R1 hn (by omega) _ (.inr (.inl ⟨rfl, rfl⟩))
        · subst e; rw [ptextT_var]
          exact pstext_leaf nb no d.nodes.length c i 2 n s ka _ kc w hi hL R1 hn (by omega) _ (.inr (.inr (.inl ⟨rfl, rfl⟩)))
        · subst e; rw [ptextT_unit]
          exact pstext_leaf nb no d.nodes.length c i 6 n s ka _ kc w hi hL R1 hn (by omega) _ (.inr (.inr (.inr (.inl ⟨rfl, rfl⟩))))
      · subst e
        match ks, hk with
        | [p, q], hk =>
          obtain ⟨rfl, rfl⟩ : treeOf d.nodes f p.toNat = x ∧ treeOf d.nodes f q.toNat = y := by simpa using hk
          have hp := hup p (by simp)
          have hq := hup q (by simp)
          obtain ⟨p, rfl⟩ : ∃ p' : Nat, p = p' := ⟨p.toNat, by omega⟩
          obtain ⟨q, rfl⟩ : ∃ q' : Nat, q = q' := ⟨q.toNat, by omega⟩
          simp only [List.map_cons, List.map_nil, Int.toNat_natCast] at *
          rw [ptextT_pair]
          obtain ⟨kb, ko, z0, s0, _, rfl, Q0, ⟨rfl, _⟩, q0⟩ := k0.get (k := 0) (Lib.hid rfl) (by simp)
          obtain ⟨kb', ko', z1, s1, _, hh, Q1, ⟨rfl, _⟩, q1⟩ := k0.get (k := 1) (Lib.hid rfl) (by simp)
          obtain ⟨rfl, rfl⟩ : kb = kb' ∧ ko = ko' := by injection hh with h; injection h with h1 h2; exact ⟨h1, h2⟩
          obtain rfl : (p : Int) = z0 := by have := Q0.out; simpa using this
          obtain rfl : (q : Int) = z1 := by have := Q1.out; simpa using this
          have t0 := hkids _ (show treeOf d.nodes f p ∈ [treeOf d.nodes f p, treeOf d.nodes f q] by simp)
          have t1 := hkids _ (show treeOf d.nodes f q ∈ [treeOf d.nodes f p, treeOf d.nodes f q] by simp)
          simp at hwt
          have l0 := ptextT_len f _ t0
          have l1 := ptextT_len f _ t1
          exact pstext_pair nb no d.nodes.length c i kb ko kc p q n s _ _ w hi hL R1 (by simpa using q0 0 _ rfl) (by simpa using q1 0 _ rfl) (by omega) (by omega)
            (fun W hW => ih f (by omega) p (by omega) (by omega) t0 (by omega) _ lo W (HR W hW)) (fun W hW => ih f (by omega) q (by omega) (by omega) t1 (by omega) _ lo W (HR W hW))
        | [], hk => simp at hk
        | [_], hk => simp at hk
        | _ :: _ :: _ :: _, hk => simp at hk
      · subst e
        have : ks = [] := by simpa using hk
        subst this
        rw [show (([] : List Int).map fun k => treeOf d.nodes f k.toNat) = [] from rfl, ptextT_nil]
        exact pstext_leaf nb no d.nodes.length c i 4 n s ka 0 kc w hi hL R1 hn (by omega) _ (.inr (.inr (.inr (.inr ⟨rfl, rfl, rfl⟩))))
      · subst e
        match ks, hk with
        | [p], hk =>
          obtain rfl : treeOf d.nodes f p.toNat = x := by simpa using hk
          have hp := hup p (by simp)
          obtain ⟨p, rfl⟩ : ∃ p' : Nat, p = p' := ⟨p.toNat, by omega⟩
          simp only [List.map_cons, List.map_nil, Int.toNat_natCast] at *
          obtain ⟨kb, ko, z0, s0, _, rfl, Q0, ⟨rfl, _⟩, q0⟩ := k0.get (k := 0) (Lib.hid rfl) (by simp)
          obtain rfl : (p : Int) = z0 := by have := Q0.out; simpa using this
          have t0 := hkids _ (show treeOf d.nodes f p ∈ [treeOf d.nodes f p] by simp)
          simp at hwt
          by_cases hs : (s.toList == sCons) = true
          · have e5 := hx5 hs
            match f, t0, e5, hwt with
            | f + 1, t0, e5, hwt =>
              obtain ⟨nb', no', y, r5, _, hh, P5, hy, R5⟩ := h0.get (k := p) (Lib.hid rfl) (by omega)
              obtain ⟨rfl, rfl⟩ : nb = nb' ∧ no = no' := by injection hh with h; injection h with h1 h2; exact ⟨h1, h2⟩
              have P5 := P5.out
              have hup5 := hU p y P5
              rw [treeOf_some P5] at t0 e5 hwt ⊢
              obtain ⟨kd5, n5, s5, ks5⟩ := y
              obtain ⟨u5, rfl, _, hkd5⟩ := hy
              obtain ⟨ka5, kc5, rfl, kl5, km5, k5⟩ := hkd5
              simp only [PxT.kind, PxT.n, PxT.s, PxT.kids] at *
              subst e5
              obtain ⟨_, hk5, hkids5⟩ := t0
              simp only [PxT.kind, PxT.n, PxT.s, PxT.kids] at *
              have hk5' : ∃ a b, (ks5.map fun k => treeOf d.nodes f k.toNat) = [a, b] := by
                rcases hk5 with ⟨e, _⟩ | ⟨_, h⟩ | ⟨e, _⟩
                · omega
                · exact h
                · omega
              obtain ⟨x0, x1, hk5'⟩ := hk5'
              match ks5, hk5' with
              | [g0, g1], hk5' =>
                obtain ⟨rfl, rfl⟩ : treeOf d.nodes f g0.toNat = x0 ∧ treeOf d.nodes f g1.toNat = x1 := by simpa using hk5'
                have hg0 := hup5 g0 (by simp)
                have hg1 := hup5 g1 (by simp)
                obtain ⟨g0, rfl⟩ : ∃ p' : Nat, g0 = p' := ⟨g0.toNat, by omega⟩
                obtain ⟨g1, rfl⟩ : ∃ p' : Nat, g1 = p' := ⟨g1.toNat, by omega⟩
                simp only [List.map_cons, List.map_nil, Int.toNat_natCast] at *
                rw [ptextT_cons _ _ _ _ _ _ _ hs]
                obtain ⟨kb2, ko2, z2, s2, _, rfl, Q2, ⟨rfl, _⟩, q2⟩ := k5.get (k := 0) (Lib.hid rfl) (by simp)
                obtain ⟨kb3, ko3, z3, s3, _, hh3, Q3, ⟨rfl, _⟩, q3⟩ := k5.get (k := 1) (Lib.hid rfl) (by simp)
                obtain ⟨rfl, rfl⟩ : kb2 = kb3 ∧ ko2 = ko3 := by injection hh3 with h; injection h with h1 h2; exact ⟨h1, h2⟩
                obtain rfl : (g0 : Int) = z2 := by have := Q2.out; simpa using this
                obtain rfl : (g1 : Int) = z3 := by have := Q3.out; simpa using this
                have t2 := hkids5 _ (show treeOf d.nodes f g0 ∈ [treeOf d.nodes f g0, treeOf d.nodes f g1] by simp)
                have t3 := hkids5 _ (show treeOf d.nodes f g1 ∈ [treeOf d.nodes f g0, treeOf d.nodes f g1] by simp)
                have hw5 : wt (f + 1) (.mk 5 n5 s5 [treeOf d.nodes f g0, treeOf d.nodes f g1]) = 4 * s5.size + 30 + (wt f (treeOf d.nodes f g0) + wt f (treeOf d.nodes f g1)) := by
                  show 4 * s5.size + 30 + ([treeOf d.nodes f g0, treeOf d.nodes f g1].map (wt f)).sum = _
                  simp
                have l2 := ptextT_len f _ t2
                have l3 := ptextT_len f _ t3
                exact pstext_cons nb no d.nodes.length c i p kb ko kc kb2 ko2 kc5 g0 g1 n n5 s s5 _ _ w hi (by omega) hL R1 R5 (by simpa using q0 0 _ rfl) hs (by simpa using q2 0 _ rfl) (by simpa using q3 0 _ rfl) (by omega) (by omega)
                  (fun W hW => ih f (by omega) g0 (by omega) (by omega) t2 (by omega) _ lo W (HR W hW)) (fun W hW => ih f (by omega) g1 (by omega) (by omega) t3 (by omega) _ lo W (HR W hW))
              | [], hk => simp at hk
              | [_], hk => simp at hk
              | _ :: _ :: _ :: _, hk => simp at hk
          · rw [ptextT_con _ _ _ _ (by simpa using hs)]
            have l0 := ptextT_len f _ t0
            exact pstext_con nb no d.nodes.length c i kb ko kc p n s _ w hi hL R1 (by simpa using q0 0 _ rfl) (by simpa using hs) (by omega) (by omega)
              (fun W hW => ih f (by omega) p (by omega) (by omega) t0 (by omega) _ lo W (HR W hW))
        | [], hk => simp at hk
        | _ :: _ :: _, hk => simp at hk


end Go.Proofs.Ytklfepnokidnaaa
