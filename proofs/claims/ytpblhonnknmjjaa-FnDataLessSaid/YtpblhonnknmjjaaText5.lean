/- The text of a value: the reference's l21Text at a list's constructor. -/
import Derived.Test.YtpblhonnknmjjaaText4
namespace Go.Proofs.Ytpblhonnknmjjaa
open Go.RowKit
set_option linter.unusedVariables false
set_option linter.unusedSimpArgs false
attribute [local go_sem] Ext.cell

set_option maxRecDepth 100000 in
set_option maxHeartbeats 8000000 in
theorem stext_cons (nb no N nc i j kb ko kc kb2 ko2 kc2 : Nat) (j0 j1 n n5 : Int) (s s5 A B : ByteArray) (w : World) (hi : i < N) (hj : j < N) (hN : N ≤ 600) (hr : RowAt w nb (no + i * 4) [.int .i64 4, .int .i64 n, .string s, .slice (some ⟨kb, ko, none⟩) 1 kc])
    (hr5 : RowAt w nb (no + j * 4) [.int .i64 5, .int .i64 n5, .string s5, .slice (some ⟨kb2, ko2, none⟩) 2 kc2]) (p : w.cell? ⟨kb, ko, none⟩ = some (.int .i64 j)) (hs : (s.toList == sCons) = true)
    (p0 : w.cell? ⟨kb2, ko2, none⟩ = some (.int .i64 j0)) (p1 : w.cell? ⟨kb2, ko2 + 1, none⟩ = some (.int .i64 j1)) (hA : A.size ≤ 1073741824) (hB : B.size ≤ 1073741824)
    (cA : ∀ W, Below w.heap.size w W → Calls Try.prog 28 #[.agg #[.slice (some ⟨nb, no, none⟩) N nc], .int .i64 j0] W fun e w' => e = .returned (.string A) ∧ Below W.heap.size W w')
    (cB : ∀ W, Below w.heap.size w W → Calls Try.prog 28 #[.agg #[.slice (some ⟨nb, no, none⟩) N nc], .int .i64 j1] W fun e w' => e = .returned (.string B) ∧ Below W.heap.size W w') :
    Calls Try.prog 28 #[.agg #[.slice (some ⟨nb, no, none⟩) N nc], .int .i64 i] w fun e w' => e = .returned (.string (bParen ++ A ++ bColons ++ B ++ bClose)) ∧ Below w.heap.size w w' := by
  obtain ⟨e0, e1, e2, e3⟩ := hr.cells4
  have hb0 := World.block_lt_of_cell? _ _ e0
  dsimp only at hb0
  unfold sCons at hs
  have l1 : (9223372036854775807 < 1 + A.size) = False := by simp; omega
  have l2 : (9223372036854775807 < 1 + A.size + 4) = False := by simp; omega
  have l3 : (9223372036854775807 < 1 + A.size + 4 + B.size) = False := by simp; omega
  have l4 : (9223372036854775807 < 1 + A.size + 4 + B.size + 1) = False := by simp; omega
  have i0 : (0 : Int) ≤ (j : Int) := by omega
  have i1 : (j : Int) < (N : Int) := by omega
  replace cA := Lib.hid cA; replace cB := Lib.hid cB
  clear hr
  go_enter Try.func28, Try.ntmps28
  go_upto_region 2 with fail
  have D : RowAt (w.alloc (.cells #[.slice (some ⟨nb, no, none⟩) N nc] 25)) (w.heap.size) 0 [.slice (some ⟨nb, no, none⟩) N nc] := RowAt.box w #[.slice (some ⟨nb, no, none⟩) N nc] 25
  have D := D.below (show Below (w.alloc (.cells #[.slice (some ⟨nb, no, none⟩) N nc] 25)).heap.size (w.alloc (.cells #[.slice (some ⟨nb, no, none⟩) N nc] 25)) ((w.alloc (.cells #[.slice (some ⟨nb, no, none⟩) N nc] 25)).alloc (.cells #[.int .i64 4, .int .i64 n, .string s, .slice (some ⟨kb, ko, none⟩) 1 kc] 44)) by go_grown)
  have M : RowAt ((w.alloc (.cells #[.slice (some ⟨nb, no, none⟩) N nc] 25)).alloc (.cells #[.int .i64 4, .int .i64 n, .string s, .slice (some ⟨kb, ko, none⟩) 1 kc] 44)) (w.heap.size + 1) 0 [.int .i64 4, .int .i64 n, .string s, .slice (some ⟨kb, ko, none⟩) 1 kc] := by have h := RowAt.box (w.alloc (.cells #[.slice (some ⟨nb, no, none⟩) N nc] 25)) #[.int .i64 4, .int .i64 n, .string s, .slice (some ⟨kb, ko, none⟩) 1 kc] 44; simp only [World.size_alloc] at h; exact h
  have hw : Below w.heap.size w ((w.alloc (.cells #[.slice (some ⟨nb, no, none⟩) N nc] 25)).alloc (.cells #[.int .i64 4, .int .i64 n, .string s, .slice (some ⟨kb, ko, none⟩) 1 kc] 44)) := by go_grown
  generalize ((w.alloc (.cells #[.slice (some ⟨nb, no, none⟩) N nc] 25)).alloc (.cells #[.int .i64 4, .int .i64 n, .string s, .slice (some ⟨kb, ko, none⟩) 1 kc] 44)) = w0 at *
  have d_0 := D.box1; have hsD := World.block_lt_of_cell? _ _ d_0; dsimp only at hsD; obtain ⟨m_0, m_1, m_2, m_3⟩ := M.box4; have hsM := World.block_lt_of_cell? _ _ m_0; dsimp only at hsM
  have p := cell_below hw p
  have p0 := cell_below hw p0
  have p1 := cell_below hw p1
  obtain ⟨f0, f1, f2, f3⟩ := (hr5.below hw).cells4
  have hbp := World.block_lt_of_cell? _ _ p
  have hbp0 := World.block_lt_of_cell? _ _ p0
  have hbf := World.block_lt_of_cell? _ _ f0
  dsimp only at hbp hbp0 hbf
  clear e0 e1 e2 e3 hr5
  go_upto_region 14 with fail
  go_region_held3 (fun w' => w'.cell? ⟨w.heap.size, 0, none⟩ = some (.slice (some ⟨nb, no, none⟩) N nc) ∧ w'.cell? ⟨w.heap.size + 1, 3, none⟩ = some (.slice (some ⟨kb, ko, none⟩) 1 kc) ∧ w'.cell? ⟨kb, ko, none⟩ = some (.int .i64 j) ∧ w'.cell? ⟨nb, no + j * 4, none⟩ = some (.int .i64 5) ∧ w'.cell? ⟨nb, no + j * 4 + 1, none⟩ = some (.int .i64 n5) ∧ w'.cell? ⟨nb, no + j * 4 + 2, none⟩ = some (.string s5) ∧ w'.cell? ⟨nb, no + j * 4 + 3, none⟩ = some (.slice (some ⟨kb2, ko2, none⟩) 2 kc2)) (go_keep) (fail)
  go_upto_region 15 with fail
  obtain ⟨W, hW⟩ : ∃ W, W = (w0.alloc (.cells #[.int .i64 5, .int .i64 n5, .string s5, .slice (some ⟨kb2, ko2, none⟩) 2 kc2] 44)).drew := ⟨_, rfl⟩
  have hWb : Below w0.heap.size w0 W := by rw [hW]; go_grown
  have F : RowAt W w0.heap.size 0 [.int .i64 5, .int .i64 n5, .string s5, .slice (some ⟨kb2, ko2, none⟩) 2 kc2] := by rw [hW]; exact RowAt.box w0 #[_, _, _, _] _
  rw [← hW]
  have hK := hw.trans (hWb.mono hw.size)
  have D := D.below hWb
  have p0 := cell_below hWb p0
  have p1 := cell_below hWb p1
  clear hW hWb p f0 f1 f2 f3 hbp hbp0 hbf hb0 M m_0 m_1 m_2 m_3 hsM
  have d_0 := D.box1; have hsD := World.block_lt_of_cell? _ _ d_0; dsimp only at hsD; obtain ⟨f_0, f_1, f_2, f_3⟩ := F.box4; have hsF := World.block_lt_of_cell? _ _ f_0; dsimp only at hsF
  have hbp0 := World.block_lt_of_cell? _ _ p0
  dsimp only at hbp0
  go_region_held3 (fun w' => w'.cell? ⟨w.heap.size, 0, none⟩ = some (.slice (some ⟨nb, no, none⟩) N nc) ∧ w'.cell? ⟨w0.heap.size, 3, none⟩ = some (.slice (some ⟨kb2, ko2, none⟩) 2 kc2) ∧ w'.cell? ⟨kb2, ko2, none⟩ = some (.int .i64 j0) ∧ w'.cell? ⟨kb2, ko2 + 1, none⟩ = some (.int .i64 j1))
    (first | go_keep | (refine ⟨cell_below hb ?_, cell_below hb ?_, cell_below hb ?_, cell_below hb ?_⟩ <;> go_keep))
    (first
      | (go_at_call 28; ((with_reducible refine (cA.out _ (by go_grown)).mono ?_); rintro e w1 ⟨rfl, hb⟩; have hK : Below w.heap.size w w1 := Below.trans (by go_grown) (hb.mono (by have := hK.size; first | (simp; omega) | omega))))
      | (go_at_call 28; ((with_reducible refine (cB.out _ (by go_grown)).mono ?_); rintro e w1 ⟨rfl, hb⟩; have hK : Below w.heap.size w w1 := Below.trans (by go_grown) (hb.mono (by have := hK.size; first | (simp; omega) | omega)))))
  all_goals go_wp2_with fail
  all_goals go_returns
  all_goals exact ⟨rfl, hK⟩

end Go.Proofs.Ytpblhonnknmjjaa
