/- The text of a value: the reference's l21Text, step by step. -/
import Derived.Test.YtpblhonnknmjjaaText3
namespace Go.Proofs.Ytpblhonnknmjjaa
open Go.RowKit
set_option linter.unusedVariables false
set_option linter.unusedSimpArgs false
attribute [local go_sem] Ext.cell

set_option maxRecDepth 100000 in
set_option maxHeartbeats 4000000 in
theorem stext_leaf (nb no N nc i : Nat) (kd n : Int) (s : ByteArray) (ka : Option Addr) (m kc : Nat) (w : World) (hi : i < N) (hN : N ≤ 600) (hr : RowAt w nb (no + i * 4) [.int .i64 kd, .int .i64 n, .string s, .slice ka m kc]) (hn : I64 n) (hs : s.size ≤ 1073741824) (r : ByteArray)
    (hk : (kd = 3 ∧ r = numText n) ∨ (kd = 2 ∧ r = quoteS s) ∨ (kd = 6 ∧ r = bUnit) ∨ (kd = 4 ∧ m = 0 ∧ r = s)) :
    Calls Try.prog 28 #[.agg #[.slice (some ⟨nb, no, none⟩) N nc], .int .i64 i] w fun e w' => e = .returned (.string r) ∧ Below w.heap.size w w' := by
  obtain ⟨e0, e1, e2, e3⟩ := hr.cells4
  have hb0 := World.block_lt_of_cell? _ _ e0
  dsimp only at hb0
  clear hr
  rcases hk with ⟨rfl, rfl⟩ | ⟨rfl, rfl⟩ | ⟨rfl, rfl⟩ | ⟨rfl, rfl, rfl⟩
  · have c1 := fun W => spec_NumText_c n hn W
    generalize numText n = t at *
    go_enter Try.func28, Try.ntmps28
    go_upto_region 2 with fail
    have D : RowAt (w.alloc (.cells #[.slice (some ⟨nb, no, none⟩) N nc] 25)) (w.heap.size) 0 [.slice (some ⟨nb, no, none⟩) N nc] := RowAt.box w #[.slice (some ⟨nb, no, none⟩) N nc] 25
    have D := D.below (show Below (w.alloc (.cells #[.slice (some ⟨nb, no, none⟩) N nc] 25)).heap.size (w.alloc (.cells #[.slice (some ⟨nb, no, none⟩) N nc] 25)) ((w.alloc (.cells #[.slice (some ⟨nb, no, none⟩) N nc] 25)).alloc (.cells #[.int .i64 3, .int .i64 n, .string s, .slice ka m kc] 44)) by go_grown)
    have M : RowAt ((w.alloc (.cells #[.slice (some ⟨nb, no, none⟩) N nc] 25)).alloc (.cells #[.int .i64 3, .int .i64 n, .string s, .slice ka m kc] 44)) (w.heap.size + 1) 0 [.int .i64 3, .int .i64 n, .string s, .slice ka m kc] := by have h := RowAt.box (w.alloc (.cells #[.slice (some ⟨nb, no, none⟩) N nc] 25)) #[.int .i64 3, .int .i64 n, .string s, .slice ka m kc] 44; simp only [World.size_alloc] at h; exact h
    have hw : Below w.heap.size w ((w.alloc (.cells #[.slice (some ⟨nb, no, none⟩) N nc] 25)).alloc (.cells #[.int .i64 3, .int .i64 n, .string s, .slice ka m kc] 44)) := by go_grown
    generalize ((w.alloc (.cells #[.slice (some ⟨nb, no, none⟩) N nc] 25)).alloc (.cells #[.int .i64 3, .int .i64 n, .string s, .slice ka m kc] 44)) = w0 at *
    have d_0 := D.box1; have hsD := World.block_lt_of_cell? _ _ d_0; dsimp only at hsD; obtain ⟨m_0, m_1, m_2, m_3⟩ := M.box4; have hsM := World.block_lt_of_cell? _ _ m_0; dsimp only at hsM
    go_wp2_with (go_at_call 50; ((with_reducible refine (c1 _).mono ?_); rintro e w1 ⟨rfl, hb⟩; have hw := hw.trans (hb.mono hw.size); have D := D.below hb; have d_0 := D.box1; have hsD := World.block_lt_of_cell? _ _ d_0; dsimp only at hsD; clear hb))
    go_returns
    exact ⟨rfl, hw⟩
  · have c1 := fun W => spec_Quote_c s (by omega) W
    generalize quoteS s = t at *
    go_enter Try.func28, Try.ntmps28
    go_upto_region 2 with fail
    have D : RowAt (w.alloc (.cells #[.slice (some ⟨nb, no, none⟩) N nc] 25)) (w.heap.size) 0 [.slice (some ⟨nb, no, none⟩) N nc] := RowAt.box w #[.slice (some ⟨nb, no, none⟩) N nc] 25
    have D := D.below (show Below (w.alloc (.cells #[.slice (some ⟨nb, no, none⟩) N nc] 25)).heap.size (w.alloc (.cells #[.slice (some ⟨nb, no, none⟩) N nc] 25)) ((w.alloc (.cells #[.slice (some ⟨nb, no, none⟩) N nc] 25)).alloc (.cells #[.int .i64 2, .int .i64 n, .string s, .slice ka m kc] 44)) by go_grown)
    have M : RowAt ((w.alloc (.cells #[.slice (some ⟨nb, no, none⟩) N nc] 25)).alloc (.cells #[.int .i64 2, .int .i64 n, .string s, .slice ka m kc] 44)) (w.heap.size + 1) 0 [.int .i64 2, .int .i64 n, .string s, .slice ka m kc] := by have h := RowAt.box (w.alloc (.cells #[.slice (some ⟨nb, no, none⟩) N nc] 25)) #[.int .i64 2, .int .i64 n, .string s, .slice ka m kc] 44; simp only [World.size_alloc] at h; exact h
    have hw : Below w.heap.size w ((w.alloc (.cells #[.slice (some ⟨nb, no, none⟩) N nc] 25)).alloc (.cells #[.int .i64 2, .int .i64 n, .string s, .slice ka m kc] 44)) := by go_grown
    generalize ((w.alloc (.cells #[.slice (some ⟨nb, no, none⟩) N nc] 25)).alloc (.cells #[.int .i64 2, .int .i64 n, .string s, .slice ka m kc] 44)) = w0 at *
    have d_0 := D.box1; have hsD := World.block_lt_of_cell? _ _ d_0; dsimp only at hsD; obtain ⟨m_0, m_1, m_2, m_3⟩ := M.box4; have hsM := World.block_lt_of_cell? _ _ m_0; dsimp only at hsM
    go_wp2_with (go_at_call 51; ((with_reducible refine (c1 _).mono ?_); rintro e w1 ⟨rfl, hb⟩; have hw := hw.trans (hb.mono hw.size); have D := D.below hb; have d_0 := D.box1; have hsD := World.block_lt_of_cell? _ _ d_0; dsimp only at hsD; clear hb))
    go_returns
    exact ⟨rfl, hw⟩
  · go_enter Try.func28, Try.ntmps28
    go_wp2_with fail
    go_returns
    exact ⟨rfl, by go_grown⟩
  · go_enter Try.func28, Try.ntmps28
    go_wp2_with fail
    go_returns
    exact ⟨rfl, by go_grown⟩

set_option maxRecDepth 100000 in
set_option maxHeartbeats 4000000 in
theorem stext_pair (nb no N nc i kb ko kc : Nat) (j0 j1 n : Int) (s A B : ByteArray) (w : World) (hi : i < N) (hN : N ≤ 600) (hr : RowAt w nb (no + i * 4) [.int .i64 5, .int .i64 n, .string s, .slice (some ⟨kb, ko, none⟩) 2 kc])
    (p0 : w.cell? ⟨kb, ko, none⟩ = some (.int .i64 j0)) (p1 : w.cell? ⟨kb, ko + 1, none⟩ = some (.int .i64 j1)) (hA : A.size ≤ 1073741824) (hB : B.size ≤ 1073741824)
    (cA : ∀ W, Below w.heap.size w W → Calls Try.prog 28 #[.agg #[.slice (some ⟨nb, no, none⟩) N nc], .int .i64 j0] W fun e w' => e = .returned (.string A) ∧ Below W.heap.size W w')
    (cB : ∀ W, Below w.heap.size w W → Calls Try.prog 28 #[.agg #[.slice (some ⟨nb, no, none⟩) N nc], .int .i64 j1] W fun e w' => e = .returned (.string B) ∧ Below W.heap.size W w') :
    Calls Try.prog 28 #[.agg #[.slice (some ⟨nb, no, none⟩) N nc], .int .i64 i] w fun e w' => e = .returned (.string (bParen ++ A ++ bComma ++ B ++ bClose)) ∧ Below w.heap.size w w' := by
  obtain ⟨e0, e1, e2, e3⟩ := hr.cells4
  have hb0 := World.block_lt_of_cell? _ _ e0
  have hb1 := World.block_lt_of_cell? _ _ p0
  dsimp only at hb0 hb1
  have l1 : (9223372036854775807 < 1 + A.size) = False := by simp; omega
  have l2 : (9223372036854775807 < 1 + A.size + 2) = False := by simp; omega
  have l3 : (9223372036854775807 < 1 + A.size + 2 + B.size) = False := by simp; omega
  have l4 : (9223372036854775807 < 1 + A.size + 2 + B.size + 1) = False := by simp; omega
  replace cA := Lib.hid cA; replace cB := Lib.hid cB
  clear hr
  go_enter Try.func28, Try.ntmps28
  go_upto_region 2 with fail
  have D : RowAt (w.alloc (.cells #[.slice (some ⟨nb, no, none⟩) N nc] 25)) (w.heap.size) 0 [.slice (some ⟨nb, no, none⟩) N nc] := RowAt.box w #[.slice (some ⟨nb, no, none⟩) N nc] 25
  have D := D.below (show Below (w.alloc (.cells #[.slice (some ⟨nb, no, none⟩) N nc] 25)).heap.size (w.alloc (.cells #[.slice (some ⟨nb, no, none⟩) N nc] 25)) ((w.alloc (.cells #[.slice (some ⟨nb, no, none⟩) N nc] 25)).alloc (.cells #[.int .i64 5, .int .i64 n, .string s, .slice (some ⟨kb, ko, none⟩) 2 kc] 44)) by go_grown)
  have M : RowAt ((w.alloc (.cells #[.slice (some ⟨nb, no, none⟩) N nc] 25)).alloc (.cells #[.int .i64 5, .int .i64 n, .string s, .slice (some ⟨kb, ko, none⟩) 2 kc] 44)) (w.heap.size + 1) 0 [.int .i64 5, .int .i64 n, .string s, .slice (some ⟨kb, ko, none⟩) 2 kc] := by have h := RowAt.box (w.alloc (.cells #[.slice (some ⟨nb, no, none⟩) N nc] 25)) #[.int .i64 5, .int .i64 n, .string s, .slice (some ⟨kb, ko, none⟩) 2 kc] 44; simp only [World.size_alloc] at h; exact h
  have hw : Below w.heap.size w ((w.alloc (.cells #[.slice (some ⟨nb, no, none⟩) N nc] 25)).alloc (.cells #[.int .i64 5, .int .i64 n, .string s, .slice (some ⟨kb, ko, none⟩) 2 kc] 44)) := by go_grown
  generalize ((w.alloc (.cells #[.slice (some ⟨nb, no, none⟩) N nc] 25)).alloc (.cells #[.int .i64 5, .int .i64 n, .string s, .slice (some ⟨kb, ko, none⟩) 2 kc] 44)) = w0 at *
  have d_0 := D.box1; have hsD := World.block_lt_of_cell? _ _ d_0; dsimp only at hsD; obtain ⟨m_0, m_1, m_2, m_3⟩ := M.box4; have hsM := World.block_lt_of_cell? _ _ m_0; dsimp only at hsM
  have hK := hw
  have p0 := cell_below hw p0
  have p1 := cell_below hw p1
  go_wp2_with fail
  go_region_held3 (fun w' => w'.cell? ⟨w.heap.size, 0, none⟩ = some (.slice (some ⟨nb, no, none⟩) N nc) ∧ w'.cell? ⟨w.heap.size + 1, 3, none⟩ = some (.slice (some ⟨kb, ko, none⟩) 2 kc) ∧ w'.cell? ⟨kb, ko, none⟩ = some (.int .i64 j0) ∧ w'.cell? ⟨kb, ko + 1, none⟩ = some (.int .i64 j1))
    (first | go_keep | (refine ⟨cell_below hb ?_, cell_below hb ?_, cell_below hb ?_, cell_below hb ?_⟩ <;> go_keep))
    (first
      | (go_at_call 28; ((with_reducible refine (cA.out _ (by go_grown)).mono ?_); rintro e w1 ⟨rfl, hb⟩; have hK : Below w.heap.size w w1 := Below.trans (by go_grown) (hb.mono (by have := hK.size; first | (simp; omega) | omega))))
      | (go_at_call 28; ((with_reducible refine (cB.out _ (by go_grown)).mono ?_); rintro e w1 ⟨rfl, hb⟩; have hK : Below w.heap.size w w1 := Below.trans (by go_grown) (hb.mono (by have := hK.size; first | (simp; omega) | omega)))))
  all_goals go_wp2_with fail
  all_goals go_returns
  all_goals exact ⟨rfl, hK⟩

set_option maxRecDepth 100000 in
set_option maxHeartbeats 4000000 in
theorem stext_con (nb no N nc i kb ko kc : Nat) (j0 n : Int) (s A : ByteArray) (w : World) (hi : i < N) (hN : N ≤ 600) (hr : RowAt w nb (no + i * 4) [.int .i64 4, .int .i64 n, .string s, .slice (some ⟨kb, ko, none⟩) 1 kc])
    (p0 : w.cell? ⟨kb, ko, none⟩ = some (.int .i64 j0)) (hs : (s.toList == sCons) = false) (hss : s.size ≤ 1073741824) (hA : A.size ≤ 1073741824)
    (cA : ∀ W, Below w.heap.size w W → Calls Try.prog 28 #[.agg #[.slice (some ⟨nb, no, none⟩) N nc], .int .i64 j0] W fun e w' => e = .returned (.string A) ∧ Below W.heap.size W w') :
    Calls Try.prog 28 #[.agg #[.slice (some ⟨nb, no, none⟩) N nc], .int .i64 i] w fun e w' => e = .returned (.string (bParen ++ s ++ bSpace ++ A ++ bClose)) ∧ Below w.heap.size w w' := by
  obtain ⟨e0, e1, e2, e3⟩ := hr.cells4
  have hb0 := World.block_lt_of_cell? _ _ e0
  have hb1 := World.block_lt_of_cell? _ _ p0
  dsimp only at hb0 hb1
  unfold sCons at hs
  have l1 : (9223372036854775807 < 1 + s.size) = False := by simp; omega
  have l2 : (9223372036854775807 < 1 + s.size + 1) = False := by simp; omega
  have l3 : (9223372036854775807 < 1 + s.size + 1 + A.size) = False := by simp; omega
  have l4 : (9223372036854775807 < 1 + s.size + 1 + A.size + 1) = False := by simp; omega
  replace cA := Lib.hid cA
  clear hr
  go_enter Try.func28, Try.ntmps28
  go_upto_region 2 with fail
  have D : RowAt (w.alloc (.cells #[.slice (some ⟨nb, no, none⟩) N nc] 25)) (w.heap.size) 0 [.slice (some ⟨nb, no, none⟩) N nc] := RowAt.box w #[.slice (some ⟨nb, no, none⟩) N nc] 25
  have D := D.below (show Below (w.alloc (.cells #[.slice (some ⟨nb, no, none⟩) N nc] 25)).heap.size (w.alloc (.cells #[.slice (some ⟨nb, no, none⟩) N nc] 25)) ((w.alloc (.cells #[.slice (some ⟨nb, no, none⟩) N nc] 25)).alloc (.cells #[.int .i64 4, .int .i64 n, .string s, .slice (some ⟨kb, ko, none⟩) 1 kc] 44)) by go_grown)
  have M : RowAt ((w.alloc (.cells #[.slice (some ⟨nb, no, none⟩) N nc] 25)).alloc (.cells #[.int .i64 4, .int .i64 n, .string s, .slice (some ⟨kb, ko, none⟩) 1 kc] 44)) (w.heap.size + 1) 0 [.int .i64 4, .int .i64 n, .string s, .slice (some ⟨kb, ko, none⟩) 1 kc] := by have h := RowAt.box (w.alloc (.cells #[.slice (some ⟨nb, no, none⟩) N nc] 25)) #[.int .i64 4, .int .i64 n, .string s, .slice (some ⟨kb, ko, none⟩) 1 kc] 44; simp only [World.size_alloc] at h; exact h
  have hw : Below w.heap.size w ((w.alloc (.cells #[.slice (some ⟨nb, no, none⟩) N nc] 25)).alloc (.cells #[.int .i64 4, .int .i64 n, .string s, .slice (some ⟨kb, ko, none⟩) 1 kc] 44)) := by go_grown
  generalize ((w.alloc (.cells #[.slice (some ⟨nb, no, none⟩) N nc] 25)).alloc (.cells #[.int .i64 4, .int .i64 n, .string s, .slice (some ⟨kb, ko, none⟩) 1 kc] 44)) = w0 at *
  have d_0 := D.box1; have hsD := World.block_lt_of_cell? _ _ d_0; dsimp only at hsD; obtain ⟨m_0, m_1, m_2, m_3⟩ := M.box4; have hsM := World.block_lt_of_cell? _ _ m_0; dsimp only at hsM
  have hK := hw
  have p0 := cell_below hw p0
  go_wp2_with fail
  go_region_held3 (fun w' => w'.cell? ⟨w.heap.size, 0, none⟩ = some (.slice (some ⟨nb, no, none⟩) N nc) ∧ w'.cell? ⟨w.heap.size + 1, 2, none⟩ = some (.string s) ∧ w'.cell? ⟨w.heap.size + 1, 3, none⟩ = some (.slice (some ⟨kb, ko, none⟩) 1 kc) ∧ w'.cell? ⟨kb, ko, none⟩ = some (.int .i64 j0))
    (first | go_keep | (refine ⟨cell_below hb ?_, cell_below hb ?_, cell_below hb ?_, cell_below hb ?_⟩ <;> go_keep))
    ((go_at_call 28; ((with_reducible refine (cA.out _ (by go_grown)).mono ?_); rintro e w1 ⟨rfl, hb⟩; have hK : Below w.heap.size w w1 := Below.trans (by go_grown) (hb.mono (by have := hK.size; first | (simp; omega) | omega)))))
  all_goals go_wp2_with fail
  all_goals go_returns
  all_goals exact ⟨rfl, hK⟩

end Go.Proofs.Ytpblhonnknmjjaa
