/- Parts of the proof, merged: Text4, Text5, Text6, GrowData. -/
import Derived.Deep.RegionHeld3
import Derived.Deep.RegionLaw
import Derived.Test.YtpblhonnknmjjaaFd06
/- The text of a value: the reference's l21Text, step by step. -/
namespace Go.Proofs.Ytpblhonnknmjjaa
open Go.RowKit
set_option linter.unusedVariables false
set_option linter.unusedSimpArgs false
attribute [local go_sem] Ext.cell

set_option maxRecDepth 100000 in
set_option maxHeartbeats 4000000 in
theorem stext_leaf (nb no N nc i : Nat) (kd n : Int) (s : ByteArray) (ka : Option Addr) (m kc : Nat) (w : World) (hi : i < N) (hN : N ≤ 600) (hr : RowAt w nb (no + i * 4) [.int .i64 kd, .int .i64 n, .string s, .slice ka m kc]) (hn : I64 n) (hs : s.size ≤ 1073741824) (r : ByteArray)
    (hk : (kd = 3 ∧ r = numText n) ∨ (kd = 2 ∧ r = quoteS s) ∨ (kd = 6 ∧ r = bUnit) ∨ (kd = 4 ∧ m = 0 ∧ r = s)) :
    Calls Try.prog 28 #[.agg #[.slice (some ⟨nb, no, none⟩) N nc], .int .i64 i] w fun e w' => e = .returned (.string r) ∧ Below w.heap.size w w' := by
  obtain ⟨e0, e1, e2, e3⟩ := hr.cells4
  have hb0 := World.block_lt_of_cell? _ _ e0
  dsimp only at hb0
  clear hr
  rcases hk with ⟨rfl, rfl⟩ | ⟨rfl, rfl⟩ | ⟨rfl, rfl⟩ | ⟨rfl, rfl, rfl⟩
  · have c1 := fun W => spec_NumText_c n hn W
    generalize numText n = t at *
    go_enter Try.func28, Try.ntmps28
    go_upto_region 2 with fail
    have D : RowAt (w.alloc (.cells #[.slice (some ⟨nb, no, none⟩) N nc] 25)) (w.heap.size) 0 [.slice (some ⟨nb, no, none⟩) N nc] := RowAt.box w #[.slice (some ⟨nb, no, none⟩) N nc] 25
    have D := D.below (show Below (w.alloc (.cells #[.slice (some ⟨nb, no, none⟩) N nc] 25)).heap.size (w.alloc (.cells #[.slice (some ⟨nb, no, none⟩) N nc] 25)) ((w.alloc (.cells #[.slice (some ⟨nb, no, none⟩) N nc] 25)).alloc (.cells #[.int .i64 3, .int .i64 n, .string s, .slice ka m kc] 44)) by go_grown)
    have M : RowAt ((w.alloc (.cells #[.slice (some ⟨nb, no, none⟩) N nc] 25)).alloc (.cells #[.int .i64 3, .int .i64 n, .string s, .slice ka m kc] 44)) (w.heap.size + 1) 0 [.int .i64 3, .int .i64 n, .string s, .slice ka m kc] := by have h := RowAt.box (w.alloc (.cells #[.slice (some ⟨nb, no, none⟩) N nc] 25)) #[.int .i64 3, .int .i64 n, .string s, .slice ka m kc] 44; simp only [World.size_alloc] at h; exact h
    have hw : Below w.heap.size w ((w.alloc (.cells #[.slice (some ⟨nb, no, none⟩) N nc] 25)).alloc (.cells #[.int .i64 3, .int .i64 n, .string s, .slice ka m kc] 44)) := by go_grown
    generalize ((w.alloc (.cells #[.slice (some ⟨nb, no, none⟩) N nc] 25)).alloc (.cells #[.int .i64 3, .int .i64 n, .string s, .slice ka m kc] 44)) = w0 at *
    have d_0 := D.box1; have hsD := World.block_lt_of_cell? _ _ d_0; dsimp only at hsD; obtain ⟨m_0, m_1, m_2, m_3⟩ := M.box4; have hsM := World.block_lt_of_cell? _ _ m_0; dsimp only at hsM
    go_wp2_with (go_at_call 50; ((with_reducible refine (c1 _).mono ?_); rintro e w1 ⟨rfl, hb⟩; have hw := hw.trans (hb.mono hw.size); have D := D.below hb; have d_0 := D.box1; have hsD := World.block_lt_of_cell? _ _ d_0; dsimp only at hsD; clear hb))
    go_returns
    exact ⟨rfl, hw⟩
  · have c1 := fun W => spec_Quote_c s (by omega) W
    generalize quoteS s = t at *
    go_enter Try.func28, Try.ntmps28
    go_upto_region 2 with fail
    have D : RowAt (w.alloc (.cells #[.slice (some ⟨nb, no, none⟩) N nc] 25)) (w.heap.size) 0 [.slice (some ⟨nb, no, none⟩) N nc] := RowAt.box w #[.slice (some ⟨nb, no, none⟩) N nc] 25
    have D := D.below (show Below (w.alloc (.cells #[.slice (some ⟨nb, no, none⟩) N nc] 25)).heap.size (w.alloc (.cells #[.slice (some ⟨nb, no, none⟩) N nc] 25)) ((w.alloc (.cells #[.slice (some ⟨nb, no, none⟩) N nc] 25)).alloc (.cells #[.int .i64 2, .int .i64 n, .string s, .slice ka m kc] 44)) by go_grown)
    have M : RowAt ((w.alloc (.cells #[.slice (some ⟨nb, no, none⟩) N nc] 25)).alloc (.cells #[.int .i64 2, .int .i64 n, .string s, .slice ka m kc] 44)) (w.heap.size + 1) 0 [.int .i64 2, .int .i64 n, .string s, .slice ka m kc] := by have h := RowAt.box (w.alloc (.cells #[.slice (some ⟨nb, no, none⟩) N nc] 25)) #[.int .i64 2, .int .i64 n, .string s, .slice ka m kc] 44; simp only [World.size_alloc] at h; exact h
    have hw : Below w.heap.size w ((w.alloc (.cells #[.slice (some ⟨nb, no, none⟩) N nc] 25)).alloc (.cells #[.int .i64 2, .int .i64 n, .string s, .slice ka m kc] 44)) := by go_grown
    generalize ((w.alloc (.cells #[.slice (some ⟨nb, no, none⟩) N nc] 25)).alloc (.cells #[.int .i64 2, .int .i64 n, .string s, .slice ka m kc] 44)) = w0 at *
    have d_0 := D.box1; have hsD := World.block_lt_of_cell? _ _ d_0; dsimp only at hsD; obtain ⟨m_0, m_1, m_2, m_3⟩ := M.box4; have hsM := World.block_lt_of_cell? _ _ m_0; dsimp only at hsM
    go_wp2_with (go_at_call 51; ((with_reducible refine (c1 _).mono ?_); rintro e w1 ⟨rfl, hb⟩; have hw := hw.trans (hb.mono hw.size); have D := D.below hb; have d_0 := D.box1; have hsD := World.block_lt_of_cell? _ _ d_0; dsimp only at hsD; clear hb))
    go_returns
    exact ⟨rfl, hw⟩
  · go_enter Try.func28, Try.ntmps28
    go_wp2_with fail
    go_returns
    exact ⟨rfl, by go_grown⟩
  · go_enter Try.func28, Try.ntmps28
    go_wp2_with fail
    go_returns
    exact ⟨rfl, by go_grown⟩

set_option maxRecDepth 100000 in
set_option maxHeartbeats 4000000 in
theorem stext_pair (nb no N nc i kb ko kc : Nat) (j0 j1 n : Int) (s A B : ByteArray) (w : World) (hi : i < N) (hN : N ≤ 600) (hr : RowAt w nb (no + i * 4) [.int .i64 5, .int .i64 n, .string s, .slice (some ⟨kb, ko, none⟩) 2 kc])
    (p0 : w.cell? ⟨kb, ko, none⟩ = some (.int .i64 j0)) (p1 : w.cell? ⟨kb, ko + 1, none⟩ = some (.int .i64 j1)) (hA : A.size ≤ 1073741824) (hB : B.size ≤ 1073741824)
    (cA : ∀ W, Below w.heap.size w W → Calls Try.prog 28 #[.agg #[.slice (some ⟨nb, no, none⟩) N nc], .int .i64 j0] W fun e w' => e = .returned (.string A) ∧ Below W.heap.size W w')
    (cB : ∀ W, Below w.heap.size w W → Calls Try.prog 28 #[.agg #[.slice (some ⟨nb, no, none⟩) N nc], .int .i64 j1] W fun e w' => e = .returned (.string B) ∧ Below W.heap.size W w') :
    Calls Try.prog 28 #[.agg #[.slice (some ⟨nb, no, none⟩) N nc], .int .i64 i] w fun e w' => e = .returned (.string (bParen ++ A ++ bComma ++ B ++ bClose)) ∧ Below w.heap.size w w' := by
  obtain ⟨e0, e1, e2, e3⟩ := hr.cells4
  have hb0 := World.block_lt_of_cell? _ _ e0
  have hb1 := World.block_lt_of_cell? _ _ p0
  dsimp only at hb0 hb1
  have l1 : (9223372036854775807 < 1 + A.size) = False := by simp; omega
  have l2 : (9223372036854775807 < 1 + A.size + 2) = False := by simp; omega
  have l3 : (9223372036854775807 < 1 + A.size + 2 + B.size) = False := by simp; omega
  have l4 : (9223372036854775807 < 1 + A.size + 2 + B.size + 1) = False := by simp; omega
  replace cA := Lib.hid cA; replace cB := Lib.hid cB
  clear hr
  go_enter Try.func28, Try.ntmps28
  go_upto_region 2 with fail
  have D : RowAt (w.alloc (.cells #[.slice (some ⟨nb, no, none⟩) N nc] 25)) (w.heap.size) 0 [.slice (some ⟨nb, no, none⟩) N nc] := RowAt.box w #[.slice (some ⟨nb, no, none⟩) N nc] 25
  have D := D.below (show Below (w.alloc (.cells #[.slice (some ⟨nb, no, none⟩) N nc] 25)).heap.size (w.alloc (.cells #[.slice (some ⟨nb, no, none⟩) N nc] 25)) ((w.alloc (.cells #[.slice (some ⟨nb, no, none⟩) N nc] 25)).alloc (.cells #[.int .i64 5, .int .i64 n, .string s, .slice (some ⟨kb, ko, none⟩) 2 kc] 44)) by go_grown)
  have M : RowAt ((w.alloc (.cells #[.slice (some ⟨nb, no, none⟩) N nc] 25)).alloc (.cells #[.int .i64 5, .int .i64 n, .string s, .slice (some ⟨kb, ko, none⟩) 2 kc] 44)) (w.heap.size + 1) 0 [.int .i64 5, .int .i64 n, .string s, .slice (some ⟨kb, ko, none⟩) 2 kc] := by have h := RowAt.box (w.alloc (.cells #[.slice (some ⟨nb, no, none⟩) N nc] 25)) #[.int .i64 5, .int .i64 n, .string s, .slice (some ⟨kb, ko, none⟩) 2 kc] 44; simp only [World.size_alloc] at h; exact h
  have hw : Below w.heap.size w ((w.alloc (.cells #[.slice (some ⟨nb, no, none⟩) N nc] 25)).alloc (.cells #[.int .i64 5, .int .i64 n, .string s, .slice (some ⟨kb, ko, none⟩) 2 kc] 44)) := by go_grown
  generalize ((w.alloc (.cells #[.slice (some ⟨nb, no, none⟩) N nc] 25)).alloc (.cells #[.int .i64 5, .int .i64 n, .string s, .slice (some ⟨kb, ko, none⟩) 2 kc] 44)) = w0 at *
  have d_0 := D.box1; have hsD := World.block_lt_of_cell? _ _ d_0; dsimp only at hsD; obtain ⟨m_0, m_1, m_2, m_3⟩ := M.box4; have hsM := World.block_lt_of_cell? _ _ m_0; dsimp only at hsM
  have hK := hw
  have p0 := cell_below hw p0
  have p1 := cell_below hw p1
  go_wp2_with fail
  go_region_held3 (fun w' => w'.cell? ⟨w.heap.size, 0, none⟩ = some (.slice (some ⟨nb, no, none⟩) N nc) ∧ w'.cell? ⟨w.heap.size + 1, 3, none⟩ = some (.slice (some ⟨kb, ko, none⟩) 2 kc) ∧ w'.cell? ⟨kb, ko, none⟩ = some (.int .i64 j0) ∧ w'.cell? ⟨kb, ko + 1, none⟩ = some (.int .i64 j1))
    (first | go_keep | (refine ⟨cell_below hb ?_, cell_below hb ?_, cell_below hb ?_, cell_below hb ?_⟩ <;> go_keep))
    (first
      | (go_at_call 28; ((with_reducible refine (cA.out _ (by go_grown)).mono ?_); rintro e w1 ⟨rfl, hb⟩; have hK : Below w.heap.size w w1 := Below.trans (by go_grown) (hb.mono (by have := hK.size; first | (simp; omega) | omega))))
      | (go_at_call 28; ((with_reducible refine (cB.out _ (by go_grown)).mono ?_); rintro e w1 ⟨rfl, hb⟩; have hK : Below w.heap.size w w1 := Below.trans (by go_grown) (hb.mono (by have := hK.size; first | (simp; omega) | omega)))))
  all_goals go_wp2_with fail
  all_goals go_returns
  all_goals exact ⟨rfl, hK⟩

set_option maxRecDepth 100000 in
set_option maxHeartbeats 4000000 in
theorem stext_con (nb no N nc i kb ko kc : Nat) (j0 n : Int) (s A : ByteArray) (w : World) (hi : i < N) (hN : N ≤ 600) (hr : RowAt w nb (no + i * 4) [.int .i64 4, .int .i64 n, .string s, .slice (some ⟨kb, ko, none⟩) 1 kc])
    (p0 : w.cell? ⟨kb, ko, none⟩ = some (.int .i64 j0)) (hs : (s.toList == sCons) = false) (hss : s.size ≤ 1073741824) (hA : A.size ≤ 1073741824)
    (cA : ∀ W, Below w.heap.size w W → Calls Try.prog 28 #[.agg #[.slice (some ⟨nb, no, none⟩) N nc], .int .i64 j0] W fun e w' => e = .returned (.string A) ∧ Below W.heap.size W w') :
    Calls Try.prog 28 #[.agg #[.slice (some ⟨nb, no, none⟩) N nc], .int .i64 i] w fun e w' => e = .returned (.string (bParen ++ s ++ bSpace ++ A ++ bClose)) ∧ Below w.heap.size w w' := by
  obtain ⟨e0, e1, e2, e3⟩ := hr.cells4
  have hb0 := World.block_lt_of_cell? _ _ e0
  have hb1 := World.block_lt_of_cell? _ _ p0
  dsimp only at hb0 hb1
  unfold sCons at hs
  have l1 : (9223372036854775807 < 1 + s.size) = False := by simp; omega
  have l2 : (9223372036854775807 < 1 + s.size + 1) = False := by simp; omega
  have l3 : (9223372036854775807 < 1 + s.size + 1 + A.size) = False := by simp; omega
  have l4 : (9223372036854775807 < 1 + s.size + 1 + A.size + 1) = False := by simp; omega
  replace cA := Lib.hid cA
  clear hr
  go_enter Try.func28, Try.ntmps28
  go_upto_region 2 with fail
  have D : RowAt (w.alloc (.cells #[.slice (some ⟨nb, no, none⟩) N nc] 25)) (w.heap.size) 0 [.slice (some ⟨nb, no, none⟩) N nc] := RowAt.box w #[.slice (some ⟨nb, no, none⟩) N nc] 25
  have D := D.below (show Below (w.alloc (.cells #[.slice (some ⟨nb, no, none⟩) N nc] 25)).heap.size (w.alloc (.cells #[.slice (some ⟨nb, no, none⟩) N nc] 25)) ((w.alloc (.cells #[.slice (some ⟨nb, no, none⟩) N nc] 25)).alloc (.cells #[.int .i64 4, .int .i64 n, .string s, .slice (some ⟨kb, ko, none⟩) 1 kc] 44)) by go_grown)
  have M : RowAt ((w.alloc (.cells #[.slice (some ⟨nb, no, none⟩) N nc] 25)).alloc (.cells #[.int .i64 4, .int .i64 n, .string s, .slice (some ⟨kb, ko, none⟩) 1 kc] 44)) (w.heap.size + 1) 0 [.int .i64 4, .int .i64 n, .string s, .slice (some ⟨kb, ko, none⟩) 1 kc] := by have h := RowAt.box (w.alloc (.cells #[.slice (some ⟨nb, no, none⟩) N nc] 25)) #[.int .i64 4, .int .i64 n, .string s, .slice (some ⟨kb, ko, none⟩) 1 kc] 44; simp only [World.size_alloc] at h; exact h
  have hw : Below w.heap.size w ((w.alloc (.cells #[.slice (some ⟨nb, no, none⟩) N nc] 25)).alloc (.cells #[.int .i64 4, .int .i64 n, .string s, .slice (some ⟨kb, ko, none⟩) 1 kc] 44)) := by go_grown
  generalize ((w.alloc (.cells #[.slice (some ⟨nb, no, none⟩) N nc] 25)).alloc (.cells #[.int .i64 4, .int .i64 n, .string s, .slice (some ⟨kb, ko, none⟩) 1 kc] 44)) = w0 at *
  have d_0 := D.box1; have hsD := World.block_lt_of_cell? _ _ d_0; dsimp only at hsD; obtain ⟨m_0, m_1, m_2, m_3⟩ := M.box4; have hsM := World.block_lt_of_cell? _ _ m_0; dsimp only at hsM
  have hK := hw
  have p0 := cell_below hw p0
  go_wp2_with fail
  go_region_held3 (fun w' => w'.cell? ⟨w.heap.size, 0, none⟩ = some (.slice (some ⟨nb, no, none⟩) N nc) ∧ w'.cell? ⟨w.heap.size + 1, 2, none⟩ = some (.string s) ∧ w'.cell? ⟨w.heap.size + 1, 3, none⟩ = some (.slice (some ⟨kb, ko, none⟩) 1 kc) ∧ w'.cell? ⟨kb, ko, none⟩ = some (.int .i64 j0))
    (first | go_keep | (refine ⟨cell_below hb ?_, cell_below hb ?_, cell_below hb ?_, cell_below hb ?_⟩ <;> go_keep))
    ((go_at_call 28; ((with_reducible refine (cA.out _ (by go_grown)).mono ?_); rintro e w1 ⟨rfl, hb⟩; have hK : Below w.heap.size w w1 := Below.trans (by go_grown) (hb.mono (by have := hK.size; first | (simp; omega) | omega)))))
  all_goals go_wp2_with fail
  all_goals go_returns
  all_goals exact ⟨rfl, hK⟩

end Go.Proofs.Ytpblhonnknmjjaa

/- The text of a value: the reference's l21Text at a list's constructor. -/
namespace Go.Proofs.Ytpblhonnknmjjaa
open Go.RowKit
set_option linter.unusedVariables false
set_option linter.unusedSimpArgs false
attribute [local go_sem] Ext.cell

set_option maxRecDepth 100000 in
set_option maxHeartbeats 8000000 in
theorem stext_cons (nb no N nc i j kb ko kc kb2 ko2 kc2 : Nat) (j0 j1 n n5 : Int) (s s5 A B : ByteArray) (w : World) (hi : i < N) (hj : j < N) (hN : N ≤ 600) (hr : RowAt w nb (no + i * 4) [.int .i64 4, .int .i64 n, .string s, .slice (some ⟨kb, ko, none⟩) 1 kc])
    (hr5 : RowAt w nb (no + j * 4) [.int .i64 5, .int .i64 n5, .string s5, .slice (some ⟨kb2, ko2, none⟩) 2 kc2]) (p : w.cell? ⟨kb, ko, none⟩ = some (.int .i64 j)) (hs : (s.toList == sCons) = true)
    (p0 : w.cell? ⟨kb2, ko2, none⟩ = some (.int .i64 j0)) (p1 : w.cell? ⟨kb2, ko2 + 1, none⟩ = some (.int .i64 j1)) (hA : A.size ≤ 1073741824) (hB : B.size ≤ 1073741824)
    (cA : ∀ W, Below w.heap.size w W → Calls Try.prog 28 #[.agg #[.slice (some ⟨nb, no, none⟩) N nc], .int .i64 j0] W fun e w' => e = .returned (.string A) ∧ Below W.heap.size W w')
    (cB : ∀ W, Below w.heap.size w W → Calls Try.prog 28 #[.agg #[.slice (some ⟨nb, no, none⟩) N nc], .int .i64 j1] W fun e w' => e = .returned (.string B) ∧ Below W.heap.size W w') :
    Calls Try.prog 28 #[.agg #[.slice (some ⟨nb, no, none⟩) N nc], .int .i64 i] w fun e w' => e = .returned (.string (bParen ++ A ++ bColons ++ B ++ bClose)) ∧ Below w.heap.size w w' := by
  obtain ⟨e0, e1, e2, e3⟩ := hr.cells4
  have hb0 := World.block_lt_of_cell? _ _ e0
  dsimp only at hb0
  unfold sCons at hs
  have l1 : (9223372036854775807 < 1 + A.size) = False := by simp; omega
  have l2 : (9223372036854775807 < 1 + A.size + 4) = False := by simp; omega
  have l3 : (9223372036854775807 < 1 + A.size + 4 + B.size) = False := by simp; omega
  have l4 : (9223372036854775807 < 1 + A.size + 4 + B.size + 1) = False := by simp; omega
  have i0 : (0 : Int) ≤ (j : Int) := by omega
  have i1 : (j : Int) < (N : Int) := by omega
  replace cA := Lib.hid cA; replace cB := Lib.hid cB
  clear hr
  go_enter Try.func28, Try.ntmps28
  go_upto_region 2 with fail
  have D : RowAt (w.alloc (.cells #[.slice (some ⟨nb, no, none⟩) N nc] 25)) (w.heap.size) 0 [.slice (some ⟨nb, no, none⟩) N nc] := RowAt.box w #[.slice (some ⟨nb, no, none⟩) N nc] 25
  have D := D.below (show Below (w.alloc (.cells #[.slice (some ⟨nb, no, none⟩) N nc] 25)).heap.size (w.alloc (.cells #[.slice (some ⟨nb, no, none⟩) N nc] 25)) ((w.alloc (.cells #[.slice (some ⟨nb, no, none⟩) N nc] 25)).alloc (.cells #[.int .i64 4, .int .i64 n, .string s, .slice (some ⟨kb, ko, none⟩) 1 kc] 44)) by go_grown)
  have M : RowAt ((w.alloc (.cells #[.slice (some ⟨nb, no, none⟩) N nc] 25)).alloc (.cells #[.int .i64 4, .int .i64 n, .string s, .slice (some ⟨kb, ko, none⟩) 1 kc] 44)) (w.heap.size + 1) 0 [.int .i64 4, .int .i64 n, .string s, .slice (some ⟨kb, ko, none⟩) 1 kc] := by have h := RowAt.box (w.alloc (.cells #[.slice (some ⟨nb, no, none⟩) N nc] 25)) #[.int .i64 4, .int .i64 n, .string s, .slice (some ⟨kb, ko, none⟩) 1 kc] 44; simp only [World.size_alloc] at h; exact h
  have hw : Below w.heap.size w ((w.alloc (.cells #[.slice (some ⟨nb, no, none⟩) N nc] 25)).alloc (.cells #[.int .i64 4, .int .i64 n, .string s, .slice (some ⟨kb, ko, none⟩) 1 kc] 44)) := by go_grown
  generalize ((w.alloc (.cells #[.slice (some ⟨nb, no, none⟩) N nc] 25)).alloc (.cells #[.int .i64 4, .int .i64 n, .string s, .slice (some ⟨kb, ko, none⟩) 1 kc] 44)) = w0 at *
  have d_0 := D.box1; have hsD := World.block_lt_of_cell? _ _ d_0; dsimp only at hsD; obtain ⟨m_0, m_1, m_2, m_3⟩ := M.box4; have hsM := World.block_lt_of_cell? _ _ m_0; dsimp only at hsM
  have p := cell_below hw p
  have p0 := cell_below hw p0
  have p1 := cell_below hw p1
  obtain ⟨f0, f1, f2, f3⟩ := (hr5.below hw).cells4
  have hbp := World.block_lt_of_cell? _ _ p
  have hbp0 := World.block_lt_of_cell? _ _ p0
  have hbf := World.block_lt_of_cell? _ _ f0
  dsimp only at hbp hbp0 hbf
  clear e0 e1 e2 e3 hr5
  go_upto_region 14 with fail
  go_region_held3 (fun w' => w'.cell? ⟨w.heap.size, 0, none⟩ = some (.slice (some ⟨nb, no, none⟩) N nc) ∧ w'.cell? ⟨w.heap.size + 1, 3, none⟩ = some (.slice (some ⟨kb, ko, none⟩) 1 kc) ∧ w'.cell? ⟨kb, ko, none⟩ = some (.int .i64 j) ∧ w'.cell? ⟨nb, no + j * 4, none⟩ = some (.int .i64 5) ∧ w'.cell? ⟨nb, no + j * 4 + 1, none⟩ = some (.int .i64 n5) ∧ w'.cell? ⟨nb, no + j * 4 + 2, none⟩ = some (.string s5) ∧ w'.cell? ⟨nb, no + j * 4 + 3, none⟩ = some (.slice (some ⟨kb2, ko2, none⟩) 2 kc2)) (go_keep) (fail)
  go_upto_region 15 with fail
  obtain ⟨W, hW⟩ : ∃ W, W = (w0.alloc (.cells #[.int .i64 5, .int .i64 n5, .string s5, .slice (some ⟨kb2, ko2, none⟩) 2 kc2] 44)).drew := ⟨_, rfl⟩
  have hWb : Below w0.heap.size w0 W := by rw [hW]; go_grown
  have F : RowAt W w0.heap.size 0 [.int .i64 5, .int .i64 n5, .string s5, .slice (some ⟨kb2, ko2, none⟩) 2 kc2] := by rw [hW]; exact RowAt.box w0 #[_, _, _, _] _
  rw [← hW]
  have hK := hw.trans (hWb.mono hw.size)
  have D := D.below hWb
  have p0 := cell_below hWb p0
  have p1 := cell_below hWb p1
  clear hW hWb p f0 f1 f2 f3 hbp hbp0 hbf hb0 M m_0 m_1 m_2 m_3 hsM
  have d_0 := D.box1; have hsD := World.block_lt_of_cell? _ _ d_0; dsimp only at hsD; obtain ⟨f_0, f_1, f_2, f_3⟩ := F.box4; have hsF := World.block_lt_of_cell? _ _ f_0; dsimp only at hsF
  have hbp0 := World.block_lt_of_cell? _ _ p0
  dsimp only at hbp0
  go_region_held3 (fun w' => w'.cell? ⟨w.heap.size, 0, none⟩ = some (.slice (some ⟨nb, no, none⟩) N nc) ∧ w'.cell? ⟨w0.heap.size, 3, none⟩ = some (.slice (some ⟨kb2, ko2, none⟩) 2 kc2) ∧ w'.cell? ⟨kb2, ko2, none⟩ = some (.int .i64 j0) ∧ w'.cell? ⟨kb2, ko2 + 1, none⟩ = some (.int .i64 j1))
    (first | go_keep | (refine ⟨cell_below hb ?_, cell_below hb ?_, cell_below hb ?_, cell_below hb ?_⟩ <;> go_keep))
    (first
      | (go_at_call 28; ((with_reducible refine (cA.out _ (by go_grown)).mono ?_); rintro e w1 ⟨rfl, hb⟩; have hK : Below w.heap.size w w1 := Below.trans (by go_grown) (hb.mono (by have := hK.size; first | (simp; omega) | omega))))
      | (go_at_call 28; ((with_reducible refine (cB.out _ (by go_grown)).mono ?_); rintro e w1 ⟨rfl, hb⟩; have hK : Below w.heap.size w w1 := Below.trans (by go_grown) (hb.mono (by have := hK.size; first | (simp; omega) | omega)))))
  all_goals go_wp2_with fail
  all_goals go_returns
  all_goals exact ⟨rfl, hK⟩

end Go.Proofs.Ytpblhonnknmjjaa

/- The tree of a right value: its shape, and how long its text may be. -/
namespace Go.Proofs.Ytpblhonnknmjjaa
open Go.RowKit
set_option linter.unusedVariables false
set_option linter.unusedSimpArgs false

theorem dataOk_nodes {d : GData} (h : dataOk d = true) : ∀ (j : Nat) x, d.nodes[j]? = some x → nodeOk d.nodes x = true := by
  unfold dataOk at h
  simp only [Bool.and_eq_true, decide_eq_true_eq, Bool.not_eq_true'] at h
  obtain ⟨h1, h2, h3⟩ := h
  intro j x hx
  rw [List.any_eq_false] at h3
  have := h3 x (List.mem_of_getElem? hx)
  simpa using this

theorem conShape_cons {s : ByteArray} {k : Int} {pb : Bool} (hs : (s.toList == sCons) = true) (h : conShape s k pb = true) : pb = true := by
  have e := eq_of_beq hs
  unfold conShape at h
  rw [e] at h
  have h1 : (sCons == sTrue || sCons == sFalse || sCons == sNil) = false := by decide
  rw [h1] at h
  simp at h
  exact h.2

theorem treeOf_tok (l : List GDNode) (hU : Up l) (hok : ∀ (j : Nat) x, l[j]? = some x → nodeOk l x = true) (hwf : ∀ (j : Nat) x, l[j]? = some x → x.wf) : ∀ (f i : Nat), i < l.length → l.length ≤ i + f → TOk f (treeOf l f i)
  | 0, i, hi, hf => absurd hf (by omega)
  | f + 1, i, hi, hf => by
    obtain ⟨x, hx⟩ : ∃ x, l[i]? = some x := ⟨_, List.getElem?_eq_getElem hi⟩
    rw [treeOf_some hx]
    have hup := hU i x hx
    have hn := hok i x hx
    refine ⟨hwf i x hx, ?_, fun k hk => ?_⟩
    · obtain ⟨kd, nn, s, ks⟩ := x
      simp only [PxT.kind, PxT.kids, PxT.s] at *
      rcases nodeOk_kind l kd nn s ks with ⟨e, h⟩ | ⟨e, h⟩ | ⟨e, h⟩ | ⟨e, h⟩ | ⟨e, h⟩ | ⟨_, _, _, _, _, h⟩
      all_goals rw [hn] at h; replace h := h.symm; (try simp only [Bool.and_eq_true, beq_iff_eq] at h)
      · have : ks = [] := List.length_eq_zero_iff.1 (by omega)
        subst this; exact .inr (.inr (.inl ⟨e, rfl⟩))
      · have : ks = [] := List.length_eq_zero_iff.1 (by omega)
        subst this; exact .inr (.inl ⟨e, rfl⟩)
      · have : ks = [] := List.length_eq_zero_iff.1 (by omega)
        subst this; exact .inl ⟨e, rfl⟩
      · refine .inr (.inr (.inr (.inr ⟨e, ?_⟩)))
        have hl := conShape_le h.2
        match ks, hl with
        | [], _ => exact .inl rfl
        | [k], _ =>
          refine .inr ⟨_, rfl, fun hs => ?_⟩
          have hp := conShape_cons hs h.2
          have hk := hup k (by simp)
          obtain ⟨q, rfl⟩ : ∃ q : Nat, k = q := ⟨k.toNat, by omega⟩
          obtain ⟨y, hy⟩ : ∃ y, l[q]? = some y := ⟨_, List.getElem?_eq_getElem (by omega)⟩
          have h5 : y.kind = 5 := by
            unfold pairOf kindAt at hp
            simp [hy] at hp
            exact hp
          match f, (show f ≠ 0 by omega) with
          | f + 1, _ =>
            show (treeOf l (f + 1) ((q : Int).toNat)).kind = 5
            rw [Int.toNat_natCast, treeOf_some hy]
            exact h5
        | _ :: _ :: _, hl => simp at hl; omega
      · match ks, h.1 with
        | [a, b], _ => exact .inr (.inr (.inr (.inl ⟨e, _, _, rfl⟩)))
        | [], h => simp at h
        | [_], h => simp at h
        | _ :: _ :: _ :: _, h => simp at h; omega
      · cases h
    · obtain ⟨k', hk', rfl⟩ := List.mem_map.1 hk
      have := hup k' hk'
      exact treeOf_tok l hU hok hwf f k'.toNat (by omega) (by omega)

def pre (l : List GDNode) (j : Nat) : Nat := ((l.take j).map fun x => 4 * x.s.size + 30).sum
theorem pre_succ {l : List GDNode} {i : Nat} {x : GDNode} (h : l[i]? = some x) : pre l (i + 1) = pre l i + (4 * x.s.size + 30) := by
  unfold pre
  rw [take_snoc' h]
  simp
theorem pre_mono (l : List GDNode) : ∀ (k i : Nat), pre l i ≤ pre l (i + k)
  | 0, i => Nat.le_refl _
  | k + 1, i => by
    have h := pre_mono l k i
    cases hx : l[i + k]? with
    | some x => have := pre_succ hx; rw [← Nat.add_assoc, this]; omega
    | none =>
      have hl := List.getElem?_eq_none_iff.1 hx
      unfold pre at *
      rw [List.take_of_length_le (show l.length ≤ i + (k + 1) by omega)]
      rw [List.take_of_length_le hl] at h
      exact h
theorem kidsEnd_wt {E : Nat → Int} {L : Int} (g P : Nat → Nat) (hE : ∀ k, 0 ≤ E k → (k : Int) + 1 ≤ E k ∧ E k ≤ L) (hg : ∀ k, 0 ≤ E k → g k + P k ≤ P (E k).toNat) : ∀ (ks : List Int) (nx : Int), 0 ≤ nx → 0 ≤ kidsEnd E nx ks →
    (ks.map fun k => g k.toNat).sum + P nx.toNat ≤ P (kidsEnd E nx ks).toNat
  | [], nx, h0, h => by unfold kidsEnd; simp
  | k :: ks, nx, h0, h => by
    unfold kidsEnd at h ⊢
    split at h
    · omega
    · split at h
      · omega
      · rename_i h1 h2
        have e : k = nx := by omega
        subst e
        have h3 := hE k.toNat (by omega)
        have h4 := kidsEnd_wt g P hE hg ks (E k.toNat) (by omega) h
        have h5 := hg k.toNat (by omega)
        rw [if_neg h1, if_neg h2]
        simp only [List.map_cons, List.sum_cons]
        omega
theorem wt_ends (l : List GDNode) : ∀ (F i f : Nat), 0 ≤ ends l F i → wt f (treeOf l f i) + pre l i ≤ pre l (ends l F i).toNat
  | 0, i, f, h => by simp [ends] at h
  | F + 1, i, f, h => by
    have hr := ends_range l (F + 1) i h
    match f with
    | 0 =>
      have := pre_mono l ((ends l (F + 1) i).toNat - i) i
      rw [show i + ((ends l (F + 1) i).toNat - i) = (ends l (F + 1) i).toNat by omega] at this
      show 0 + pre l i ≤ _
      omega
    | f + 1 =>
      unfold ends at h ⊢
      cases hx : l[i]? with
      | none => rw [hx] at h; simp at h
      | some x =>
        rw [hx] at h
        have h1 := kidsEnd_wt (fun k => wt f (treeOf l f k)) (pre l) (ends_range l F) (fun k hk => wt_ends l F k f hk) x.kids (i + 1) (by omega) h
        have h2 := pre_succ hx
        rw [treeOf_some hx]
        show 4 * x.s.size + 30 + ((x.kids.map fun k => treeOf l f k.toNat).map (wt f)).sum + pre l i ≤ pre l (kidsEnd (ends l F) (i + 1) x.kids).toNat
        rw [List.map_map]
        have e : (((i : Int) + 1).toNat) = i + 1 := by omega
        rw [e] at h1
        have e2 : (x.kids.map (wt f ∘ fun k => treeOf l f k.toNat)) = x.kids.map fun k => wt f (treeOf l f k.toNat) := rfl
        rw [e2]
        omega
theorem sum_pre (l : List GDNode) : (((l.map fun x => 4 * x.s.size + 30).sum : Nat) : Int) ≤ 4 * bulkS GDNode.bulk l + 30 * l.length := by
  unfold bulkS
  induction l with
  | nil => simp
  | cons a l ih =>
    simp only [List.map_cons, List.sum_cons, List.length_cons] at *
    have : (a.s.size : Int) ≤ a.bulk := by unfold GDNode.bulk; omega
    omega
theorem wt_data {d : GData} (h : dataOk d = true) (hb : d.bulk ≤ 1048576) : wt d.nodes.length (treeOf d.nodes d.nodes.length 0) ≤ 1073741824 := by
  obtain ⟨_, h0, h6⟩ := dataOk_up h
  unfold dataOk at h
  simp only [Bool.and_eq_true, decide_eq_true_eq] at h
  obtain ⟨h1, h2, _⟩ := h
  rw [show kidsAt d.nodes = (fun i => (d.nodes[i]?.map (·.kids)).getD []) from rfl, ← ends_eq] at h2
  have h3 := wt_ends d.nodes (d.nodes.length + 1) 0 d.nodes.length (by omega)
  rw [h2, Int.toNat_natCast] at h3
  have h4 := sum_pre d.nodes
  have h5 : pre d.nodes d.nodes.length = (d.nodes.map fun x => 4 * x.s.size + 30).sum := by unfold pre; rw [List.take_length]
  unfold GData.bulk at hb
  rw [h5] at h3
  omega

end Go.Proofs.Ytpblhonnknmjjaa

/- The program's growData: the tree of a value's node. -/
namespace Go.Proofs.Ytpblhonnknmjjaa
open Go.RowKit
set_option linter.unusedVariables false
set_option linter.unusedSimpArgs false
attribute [local go_sem] Ext.cell

theorem info_px : (Try.prog.info? 48).map (fun i => (i.zero, i.size, i.bytes)) = some (some (.pointer none), 1, 8) := by kernel_rfl

set_option maxRecDepth 100000 in
set_option maxHeartbeats 8000000 in
theorem growData_c (l : List GDNode) (hU : Up l) (hfew : ∀ (j : Nat) x, l[j]? = some x → x.kids.length ≤ 2) (hL : l.length ≤ 600) : ∀ (f i : Nat) (u : Value) (lo : Nat) (w : World), Sl GDNode.R 4 lo w u l → i < l.length → l.length ≤ i + f →
    Calls Try.prog 27 #[u, .int .i64 i] w fun e w' => ∃ b, e = .returned (.pointer (some ⟨b, 0, none⟩)) ∧ PxR f (fun b => w.heap.size ≤ b) w' (.pointer (some ⟨b, 0, none⟩)) (treeOf l f i) ∧ Below w.heap.size w w'
  | 0, i, u, lo, w, hu, hi, hf => absurd hf (by omega)
  | f + 1, i, u, lo, w, hu, hi, hf => by
    have ih := growData_c l hU hfew hL f
    have Hu := hu
    obtain ⟨a, c, rfl, ul, um, h0⟩ := hu
    obtain ⟨b1, o1, x, s1, _, rfl, P1, hx, r1⟩ := h0.get (Lib.hid rfl) hi
    have P1 := P1.out
    have hT := treeOf_some (f := f) P1
    have hup := hU i x P1
    have hf2 := hfew i x P1
    obtain ⟨kd, nn, s, ks⟩ := x
    obtain ⟨u0, rfl, hwf, hkd⟩ := hx
    obtain ⟨ka, kc, rfl, kl, km, k0⟩ := hkd
    dsimp only at *
    obtain ⟨m, hm⟩ : ∃ m, m = ks.length := ⟨_, rfl⟩
    rw [← hm] at r1 kl hf2
    replace hm := Lib.hid hm
    obtain ⟨e_0, e_1, e_2, e_3⟩ := r1.cells4
    obtain ⟨i0, hi0, hz0, hz1, hz2⟩ := info_parts info_px
    have I := Lib.hid hi0; have I0 := Lib.hid hz0; have I1 := Lib.hid hz1; have I2 := Lib.hid hz2
    clear r1 hi0 hz0 hz1 hz2 P1 h0
    replace k0 := Lib.hid k0; replace hup := Lib.hid hup; replace ih := Lib.hid ih; replace hT := Lib.hid hT
    replace Hu := Lib.hid Hu
    clear hU hfew
    generalize hn : l.length = n at *
    replace hn := Lib.hid hn
    go_enter Try.func27, Try.ntmps27
    go_upto_region 4 with fail
    have hfz : ((w.alloc (.cells #[.int .i64 kd, .int .i64 nn, .string s, .slice ka m kc] 44)).alloc (.cells #[.int .i64 kd, .int .i64 nn, .string s, .slice none 0 0] 82)).frozen? ⟨w.heap.size + 1, 3, none⟩ = false := by go_simp
    have N : RowAt (w.alloc (.cells #[.int .i64 kd, .int .i64 nn, .string s, .slice ka m kc] 44)) (w.heap.size) 0 [.int .i64 kd, .int .i64 nn, .string s, .slice ka m kc] := RowAt.box w #[.int .i64 kd, .int .i64 nn, .string s, .slice ka m kc] 44
    have N := N.below (show Below (w.alloc (.cells #[.int .i64 kd, .int .i64 nn, .string s, .slice ka m kc] 44)).heap.size (w.alloc (.cells #[.int .i64 kd, .int .i64 nn, .string s, .slice ka m kc] 44)) ((w.alloc (.cells #[.int .i64 kd, .int .i64 nn, .string s, .slice ka m kc] 44)).alloc (.cells #[.int .i64 kd, .int .i64 nn, .string s, .slice none 0 0] 82)) by go_grown)
    have O : RowAt ((w.alloc (.cells #[.int .i64 kd, .int .i64 nn, .string s, .slice ka m kc] 44)).alloc (.cells #[.int .i64 kd, .int .i64 nn, .string s, .slice none 0 0] 82)) (w.heap.size + 1) 0 [.int .i64 kd, .int .i64 nn, .string s, .slice none 0 0] := by have h := RowAt.box (w.alloc (.cells #[.int .i64 kd, .int .i64 nn, .string s, .slice ka m kc] 44)) #[.int .i64 kd, .int .i64 nn, .string s, .slice none 0 0] 82; simp only [World.size_alloc] at h; exact h
    have hw : Below w.heap.size w ((w.alloc (.cells #[.int .i64 kd, .int .i64 nn, .string s, .slice ka m kc] 44)).alloc (.cells #[.int .i64 kd, .int .i64 nn, .string s, .slice none 0 0] 82)) := by go_grown
    generalize ((w.alloc (.cells #[.int .i64 kd, .int .i64 nn, .string s, .slice ka m kc] 44)).alloc (.cells #[.int .i64 kd, .int .i64 nn, .string s, .slice none 0 0] 82)) = w0 at *
    have hO := O.box4.1
    go_loopw [24] (fun ii wr => ∃ (j : Nat) (vs : List Value) (v : Value), j ≤ m ∧ ii = .int .i64 j ∧ Below w.heap.size w wr ∧ RowAt wr (w.heap.size + 1) 0 [.int .i64 kd, .int .i64 nn, .string s, v] ∧ wr.frozen? ⟨w.heap.size + 1, 3, none⟩ = false ∧
        Hid (KidsOwn wr (w.heap.size + 2) 48 f vs ((ks.take j).map fun k => treeOf l f k.toNat) v) ∧ w.heap.size + 2 ≤ wr.heap.size) (fun ii _ => m - (intOf ii).toNat)
    case atStart => exact ⟨0, [], _, by omega, rfl, hw, O, hfz, KidsOwn.nil _ _ _ _, World.block_lt_of_cell? _ _ hO⟩
    case round =>
      clear hO O N hw hfz
      obtain ⟨j, vs, v, hj, rfl, hw, O, hfz, hK, hz⟩ := hrel
      obtain ⟨ma, mcap, rfl⟩ := hK.out.form
      by_cases hjm : j < m
      · obtain ⟨b2, o2, k, s2, _, rfl, P2, ⟨rfl, hk64⟩, r2⟩ := ((k0.out.below IntR.good hw).get hm hjm)
        have e0 : wr.cell? ⟨b2, o2 + j, none⟩ = some (.int .i64 k) := by simpa using r2 0 _ rfl
        have hk := hup.out k (List.mem_of_getElem? P2.out)
        obtain ⟨q, rfl⟩ : ∃ q : Nat, k = q := ⟨k.toNat, by omega⟩
        have hst : (ks.take (j + 1)).map (fun k => treeOf l f k.toNat) = (ks.take j).map (fun k => treeOf l f k.toNat) ++ [treeOf l f q] := by rw [take_snoc' P2.out]; simp
        have hlen : ((ks.take j).map fun k => treeOf l f k.toNat).length = j := by have := hm.out; simp; omega
        have hc := fun W (hW : Below w.heap.size w W) => ih.out q (.slice (some ⟨b1, o1, none⟩) n c) lo W (Hu.out.below GDNode.good hW) (by have := hn.out; omega) (by have := hn.out; omega)
        rw [hlen] at O
        replace hc := Lib.hid hc
        obtain ⟨o_0, o_1, o_2, o_3⟩ := O.box4
        have hw2 := hw.size
        clear r2 P2
        replace hK : Hid (KidsOwn wr (w.heap.size + 2) 48 f vs ((ks.take j).map fun k => treeOf l f k.toNat) (.slice ma j mcap)) := by have h := hK.out; rw [hlen] at h; exact h
        have hown0 : wr.ownsRow (w.heap.size + 2) 48 1 (.slice ma j mcap) j vs := by have h := hK.out.2.1; rw [hlen] at h; exact h
        have hne : ∀ g, (Value.slice ma j mcap).ownBlock = some g → w.heap.size + 2 ≤ g ∧ g < wr.heap.size := own_base hown0
        replace hown0 := Lib.hid hown0
        replace hne := Lib.hid hne
        replace hst := Lib.hid hst
        replace hlen := Lib.hid hlen
        go_wp2_with fail
        go_region_law
          (first
            | (go_simp; go_at_call 27; refine (hc.out _ (by go_grown)).mono ?_; rintro e w1 ⟨pb, rfl, hR, hb⟩; have hb' : Below wr.heap.size wr w1 := Below.trans (show Below wr.heap.size wr wr.drew by go_grown) (hb.mono (by simp)); have hz1 := hb'.size; have o3' := cell_below hb' o_3; have hs1 : w.heap.size + 1 < w1.heap.size := Nat.lt_of_lt_of_le (show w.heap.size + 1 < wr.heap.size from hz) hz1; clear hb)
            | (refine step_append_lies _ (by rfl) _ _ _ (by rfl) (w.heap.size + 2) 48 i0 _ 1 8 Try.underlying80 I.out I0.out I1.out I2.out rfl (by omega) _ j vs (by rfl) (own_below hown0.out (by go_grown)) ⟨w1.heap.size, 0, none⟩ 1 1 [.pointer (some ⟨pb, 0, none⟩)] (by rfl) (by rfl) (World.news_of_block (cs := #[.pointer (some ⟨pb, 0, none⟩)]) (t := 48) (fr := (0, 0)) (heap_alloc_new' _ _ _ (by simp))) (by intro u hu; simp at hu; subst hu; rfl) (by omega) (by unfold maxLen; omega) (by omega) (by simp; omega) (w1.heap.size + 1) (by simp) ?_; intro g cap w2 hown hgrow hat hlt2; have hk3 := kept_of hgrow (w := wr) (by go_grown); have hblk : w2.heap[w.heap.size + 1]? = wr.heap[w.heap.size + 1]? := hk3 _ (by omega) (fun e => by have := (hne.out _ e.symm).1; omega); have c2 : w2.cell? ⟨w.heap.size + 1, 3, none⟩ = some (.slice ma j mcap) := (World.cell?_of_block (w := wr) (a := ⟨w.heap.size + 1, 3, none⟩) hblk).trans o_3; have f2 : w2.frozen? ⟨w.heap.size + 1, 3, none⟩ = false := (World.frozen?_of_block (w := wr) (a := ⟨w.heap.size + 1, 3, none⟩) hblk).trans hfz))
        all_goals
          have hB2 : Below w.heap.size w w2 := hw.trans ((below_grown2 (wr := wr) (base := w.heap.size + 2) hgrow (by go_grown) (Below.refl _ wr) hz hown0.out).mono (by omega))
          have hO2 := (O.of_block hblk).set3 (.slice (some ⟨g, 0, none⟩) (j + 1) cap)
          have hK2 := (KidsOwn.grow hK.out hz hb' (show Below w1.heap.size w1 (w1.alloc (.cells #[.pointer (some ⟨pb, 0, none⟩)] 48)) by go_grown) hR hgrow hown (by rw [hlen.out]) (by simpa using hat)).set (b := w.heap.size + 1) (o := 3) (by omega) (.slice (some ⟨g, 0, none⟩) (j + 1) cap)
          rw [← hst.out] at hK2
          have hz2 := hgrow.size
          simp only [World.size_alloc] at hz2
          replace hK2 := Lib.hid hK2
          clear hR hgrow hown hat hk3 hblk hK hc hne hlen hst hown0 hb' o3'
          go_wp2_with fail
          go_roundw
          case rel => exact ⟨j + 1, _, .slice (some ⟨g, 0, none⟩) (j + 1) cap, by omega, by go_num, hB2.setCell (p := ⟨w.heap.size + 1, 3, none⟩) (by simp) _, hO2, by rw [frozen_setCell]; exact f2, hK2.out, by simp; omega⟩
          case measure => simp [intOf]; omega
      · obtain rfl : j = m := by omega
        have hlen : ks.take j = ks := List.take_of_length_le (by have := hm.out; omega)
        rw [hlen] at hK O
        replace hlen := Lib.hid hlen
        have hfin : PxR (f + 1) (fun b => w.heap.size ≤ b) wr (.pointer (some ⟨w.heap.size + 1, 0, none⟩)) (treeOf l (f + 1) i) := by
          rw [hT.out]
          exact KidsOwn.tree (lo := w.heap.size) (b := w.heap.size + 1) (base := w.heap.size + 2) (t := .mk kd nn s (ks.map fun k => treeOf l f k.toNat)) hK.out (by omega) (by omega) hwf O
        replace hfin := Lib.hid hfin
        clear hK O
        go_wp2_with fail
        go_returns
        exact ⟨w.heap.size + 1, rfl, hfin.out, hw⟩

end Go.Proofs.Ytpblhonnknmjjaa
