/- Parts of the proof, merged: InsOk2, DNode. -/
import Derived.Deep.RegionLaw
import Derived.Test.YtfobkbjabenkkaaGreatPe21
/- When an instruction is right: the program's walk. -/
namespace Go.Proofs.YtfobkbjabenkkaaGreat
open Go.RowKit
set_option linter.unusedVariables false
set_option linter.unusedSimpArgs false
attribute [local go_sem] Ext.cell

set_option maxRecDepth 100000 in
set_option maxHeartbeats 8000000 in
theorem insOk_flat (op a b : Int) (s : ByteArray) (hs : StrOk s) (ha : I64 a) (hb : I64 b) (ho : I64 op) (ia pa : Option Addr) (n m ic pc : Nat) (hn : n ≤ 1152921504606846976) (hm : m ≤ 1152921504606846976) (w : World) :
    Calls Tryz.prog 46 #[.agg #[.slice ia n ic, .slice pa m pc], .agg #[.int .i64 op, .int .i64 a, .int .i64 b, .string s]] w fun e w' => e = .returned (.bool (insOkP n m ⟨op, a, b, s⟩)) ∧ Below w.heap.size w w' := by
  have hC := insOk_kind n m op a b s
  generalize insOkP n m ⟨op, a, b, s⟩ = q at hC ⊢
  have cl := fun W => leads_c op W
  have cw := fun x lo hi W => within_c x lo hi W
  have cg := fun W => given_c s hs W
  have cp := fun v W (hv : Sl StrR 1 0 W v primB) => containsS_c primB s 0 v W hv
  have cs := fun W => conShape_c s a true hs W
  have hpo : (primB.any fun y => s.toList == y.toList) = primOk s := rfl
  rw [hpo] at cp
  replace cp := Lib.hid cp
  rcases hC with ⟨hl, hq⟩ | ⟨hl, ⟨rfl, hq⟩ | ⟨h, hq⟩ | ⟨rfl, hq⟩ | ⟨rfl, hq⟩ | ⟨rfl, hq⟩ | ⟨rfl, hq⟩ | ⟨rfl, hq⟩ | ⟨h20, h6, h15, h1, h4, h2, h7, h16, hq⟩⟩
  · rw [hl] at cl
    subst hq
    clear cg cp cs hpo hl
    cases e1 : decide (0 ≤ a ∧ a ≤ (n : Int) - 1) <;> cases e2 : (b == 0) <;> cases e3 : s.toList.isEmpty
    all_goals
      have cw1 := fun W => cw a 0 ((n : Int) - 1) W
      rw [e1] at cw1
      clear e1 cw
      go_enter Tryz.func46, Tryz.ntmps46
      go_wp2_with (first | (go_at_call 74; ((with_reducible refine (cl _).mono ?_); rintro e w1 ⟨rfl, rfl⟩)) | (go_at_call 40; ((with_reducible refine (cw1 _).mono ?_); rintro e w1 ⟨rfl, rfl⟩)))
      go_returns
      exact ⟨by first | rfl | (simp; done) | (simp_all; done), by go_grown⟩
  · rw [hl] at cl
    subst hq
    clear cg cp cs hpo hl
    cases e1 : decide (0 ≤ a ∧ a ≤ (m : Int) - 1) <;> cases e2 : decide (0 ≤ b ∧ b ≤ (n : Int) - 1) <;> cases e3 : s.toList.isEmpty
    all_goals
      have cw1 := fun W => cw a 0 ((m : Int) - 1) W
      have cw2 := fun W => cw b 0 ((n : Int) - 1) W
      rw [e1] at cw1
      rw [e2] at cw2
      clear e1 e2 cw
      go_enter Tryz.func46, Tryz.ntmps46
      go_wp2_with (first | (go_at_call 74; ((with_reducible refine (cl _).mono ?_); rintro e w1 ⟨rfl, rfl⟩)) | (go_at_call 40; ((with_reducible refine (cw1 _).mono ?_); rintro e w1 ⟨rfl, rfl⟩)) | (go_at_call 40; ((with_reducible refine (cw2 _).mono ?_); rintro e w1 ⟨rfl, rfl⟩)))
      go_returns
      exact ⟨by first | rfl | (simp; done) | (simp_all; done), by go_grown⟩
  · rw [hl] at cl
    subst hq
    clear cg cp cs hpo hl
    rcases h with rfl | rfl <;> cases e1 : decide (0 ≤ a ∧ a ≤ 3000) <;> cases e2 : (b == 0) <;> cases e3 : s.toList.isEmpty
    all_goals
      have cw1 := fun W => cw a 0 3000 W
      rw [e1] at cw1
      clear e1 cw
      go_enter Tryz.func46, Tryz.ntmps46
      go_wp2_with (first | (go_at_call 74; ((with_reducible refine (cl _).mono ?_); rintro e w1 ⟨rfl, rfl⟩)) | (go_at_call 40; ((with_reducible refine (cw1 _).mono ?_); rintro e w1 ⟨rfl, rfl⟩)))
      go_returns
      exact ⟨by first | rfl | (simp; done) | (simp_all; done), by go_grown⟩
  · rw [hl] at cl
    subst hq
    clear cg cp cs hpo hl
    cases e1 : decide (-4611686018427387904 ≤ a ∧ a ≤ 4611686018427387903) <;> cases e2 : (b == 0) <;> cases e3 : s.toList.isEmpty
    all_goals
      have cw1 := fun W => cw a (-4611686018427387904) 4611686018427387903 W
      rw [e1] at cw1
      clear e1 cw
      go_enter Tryz.func46, Tryz.ntmps46
      go_wp2_with (first | (go_at_call 74; ((with_reducible refine (cl _).mono ?_); rintro e w1 ⟨rfl, rfl⟩)) | (go_at_call 40; ((with_reducible refine (cw1 _).mono ?_); rintro e w1 ⟨rfl, rfl⟩)))
      go_returns
      exact ⟨by first | rfl | (simp; done) | (simp_all; done), by go_grown⟩
  · rw [hl] at cl
    subst hq
    clear cg cp hpo hl
    generalize conShape s a true = g4 at *
    cases e1 : decide (0 ≤ a ∧ a ≤ 1) <;> cases e2 : (b == 0) <;> cases g4
    all_goals
      have cw1 := fun W => cw a 0 1 W
      rw [e1] at cw1
      clear e1 cw
      go_enter Tryz.func46, Tryz.ntmps46
      go_wp2_with (first | (go_at_call 74; ((with_reducible refine (cl _).mono ?_); rintro e w1 ⟨rfl, rfl⟩)) | (go_at_call 40; ((with_reducible refine (cw1 _).mono ?_); rintro e w1 ⟨rfl, rfl⟩)) | (go_at_call 75; ((with_reducible refine (cs _).mono ?_); rintro e w1 ⟨rfl, rfl⟩)))
      go_returns
      exact ⟨by first | rfl | (simp; done) | (simp_all; done), by go_grown⟩
  · rw [hl] at cl
    subst hq
    clear cg cp cs hpo hl
    cases e1 : (a == 0) <;> cases e2 : (b == 0)
    all_goals
      go_enter Tryz.func46, Tryz.ntmps46
      go_wp2_with (first | (go_at_call 74; ((with_reducible refine (cl _).mono ?_); rintro e w1 ⟨rfl, rfl⟩)))
      go_returns
      exact ⟨by first | rfl | (simp; done) | (simp_all; done), by go_grown⟩
  · rw [hl] at cl
    subst hq
    clear cp cs hpo hl
    generalize givenOk s = g7 at *
    cases e1 : (a == 0) <;> cases e2 : (b == 0) <;> cases g7
    all_goals
      go_enter Tryz.func46, Tryz.ntmps46
      go_wp2_with (first | (go_at_call 74; ((with_reducible refine (cl _).mono ?_); rintro e w1 ⟨rfl, rfl⟩)) | (go_at_call 76; ((with_reducible refine (cg _).mono ?_); rintro e w1 ⟨rfl, hb⟩; have hw : Below w.heap.size w w1 := Below.trans (by go_grown) (hb.mono (by go_grown)); obtain ⟨hc, hf⟩ := bcell hb; have hz := hw.size; have hz1 := hb.size; have hs0 : w.heap.size < w1.heap.size := (by have h := hz1; (try simp only [World.size_alloc, World.size_setCell, World.size_drew] at h); omega); have hs1 : w.heap.size + 1 < w1.heap.size := (by have h := hz1; (try simp only [World.size_alloc, World.size_setCell, World.size_drew] at h); omega); have hs2 : w.heap.size + 1 + 1 < w1.heap.size := (by have h := hz1; (try simp only [World.size_alloc, World.size_setCell, World.size_drew] at h); omega); clear hb)))
      go_returns
      exact ⟨by first | rfl | (simp; done) | (simp_all; done), by go_grown⟩
  · rw [hl] at cl
    subst hq
    clear cg cs hpo hl
    generalize primOk s = g16 at *
    cases e1 : (a == 0)
    · go_enter Tryz.func46, Tryz.ntmps46
      go_upto_region 1 with fail
      have C : RowAt (w.alloc (.cells #[.slice ia n ic, .slice pa m pc] 30)) (w.heap.size) 0 [.slice ia n ic, .slice pa m pc] := RowAt.box w #[.slice ia n ic, .slice pa m pc] 30
      have C := C.below (show Below (w.alloc (.cells #[.slice ia n ic, .slice pa m pc] 30)).heap.size (w.alloc (.cells #[.slice ia n ic, .slice pa m pc] 30)) ((w.alloc (.cells #[.slice ia n ic, .slice pa m pc] 30)).alloc (.cells #[.int .i64 16, .int .i64 a, .int .i64 b, .string s] 57)) by go_grown)
      have I : RowAt ((w.alloc (.cells #[.slice ia n ic, .slice pa m pc] 30)).alloc (.cells #[.int .i64 16, .int .i64 a, .int .i64 b, .string s] 57)) (w.heap.size + 1) 0 [.int .i64 16, .int .i64 a, .int .i64 b, .string s] := by have h := RowAt.box (w.alloc (.cells #[.slice ia n ic, .slice pa m pc] 30)) #[.int .i64 16, .int .i64 a, .int .i64 b, .string s] 57; simp only [World.size_alloc] at h; exact h
      have hw : Below w.heap.size w ((w.alloc (.cells #[.slice ia n ic, .slice pa m pc] 30)).alloc (.cells #[.int .i64 16, .int .i64 a, .int .i64 b, .string s] 57)) := by go_grown
      generalize ((w.alloc (.cells #[.slice ia n ic, .slice pa m pc] 30)).alloc (.cells #[.int .i64 16, .int .i64 a, .int .i64 b, .string s] 57)) = w0 at *
      obtain ⟨c_0, c_1⟩ := C.box2; have hsC := World.block_lt_of_cell? _ _ c_0; dsimp only at hsC; obtain ⟨i_0, i_1, i_2, i_3⟩ := I.box4; have hsI := World.block_lt_of_cell? _ _ i_0; dsimp only at hsI
      go_upto_region 2 with fail
      obtain ⟨w2, hW2⟩ : ∃ W, W = w0.alloc (.cells #[.int .i64 16, .int .i64 a, .int .i64 b, .string s] 57) := ⟨_, rfl⟩
      rw [← hW2]
      have hb2 : Below w0.heap.size w0 w2 := by rw [hW2]; go_grown
      have hw := hw.trans (hb2.mono hw.size)
      have C := C.below hb2
      have I := I.below hb2
      have J : RowAt w2 w0.heap.size 0 [.int .i64 16, .int .i64 a, .int .i64 b, .string s] := by rw [hW2]; exact RowAt.box w0 #[_, _, _, _] _
      clear hW2 hb2 c_0 c_1 i_0 i_1 i_2 i_3 hsC hsI
      obtain ⟨c_0, c_1⟩ := C.box2; have hsC := World.block_lt_of_cell? _ _ c_0; dsimp only at hsC; obtain ⟨i_0, i_1, i_2, i_3⟩ := I.box4; have hsI := World.block_lt_of_cell? _ _ i_0; dsimp only at hsI; obtain ⟨j_0, j_1, j_2, j_3⟩ := J.box4; have hsJ := World.block_lt_of_cell? _ _ j_0; dsimp only at hsJ
      go_upto_region 21 with (go_at_call 74; ((with_reducible refine (cl _).mono ?_); rintro e w1 ⟨rfl, rfl⟩))
      (refine wp_region_ext_lit (by kernel_rfl) (by kernel_rfl) ?_; (repeat (any_goals (first | go_big_quiet_step ((first | fail)) | quiet_step ((first | fail)) | (refine wpQuiet_step (fun K hK => ?_); go_simp; split <;> (refine hK _ ?_; clear hK K))))); all_goals (refine wpQuiet_nil ?_; rintro w1 ⟨⟨w2, hb⟩, rfl⟩; have hw := hw.trans (hb.mono hw.size); have C := C.below hb; obtain ⟨c_0, c_1⟩ := C.box2; have hsC := World.block_lt_of_cell? _ _ c_0; dsimp only at hsC; have I := I.below hb; obtain ⟨i_0, i_1, i_2, i_3⟩ := I.box4; have hsI := World.block_lt_of_cell? _ _ i_0; dsimp only at hsI; have J := J.below hb; obtain ⟨j_0, j_1, j_2, j_3⟩ := J.box4; have hsJ := World.block_lt_of_cell? _ _ j_0; dsimp only at hsJ; clear hb))
      all_goals go_wp2_with fail
      all_goals go_returns
      all_goals exact ⟨by first | rfl | (simp; done), hw⟩
    cases e2 : (b == 0)
    · go_enter Tryz.func46, Tryz.ntmps46
      go_upto_region 1 with fail
      have C : RowAt (w.alloc (.cells #[.slice ia n ic, .slice pa m pc] 30)) (w.heap.size) 0 [.slice ia n ic, .slice pa m pc] := RowAt.box w #[.slice ia n ic, .slice pa m pc] 30
      have C := C.below (show Below (w.alloc (.cells #[.slice ia n ic, .slice pa m pc] 30)).heap.size (w.alloc (.cells #[.slice ia n ic, .slice pa m pc] 30)) ((w.alloc (.cells #[.slice ia n ic, .slice pa m pc] 30)).alloc (.cells #[.int .i64 16, .int .i64 a, .int .i64 b, .string s] 57)) by go_grown)
      have I : RowAt ((w.alloc (.cells #[.slice ia n ic, .slice pa m pc] 30)).alloc (.cells #[.int .i64 16, .int .i64 a, .int .i64 b, .string s] 57)) (w.heap.size + 1) 0 [.int .i64 16, .int .i64 a, .int .i64 b, .string s] := by have h := RowAt.box (w.alloc (.cells #[.slice ia n ic, .slice pa m pc] 30)) #[.int .i64 16, .int .i64 a, .int .i64 b, .string s] 57; simp only [World.size_alloc] at h; exact h
      have hw : Below w.heap.size w ((w.alloc (.cells #[.slice ia n ic, .slice pa m pc] 30)).alloc (.cells #[.int .i64 16, .int .i64 a, .int .i64 b, .string s] 57)) := by go_grown
      generalize ((w.alloc (.cells #[.slice ia n ic, .slice pa m pc] 30)).alloc (.cells #[.int .i64 16, .int .i64 a, .int .i64 b, .string s] 57)) = w0 at *
      obtain ⟨c_0, c_1⟩ := C.box2; have hsC := World.block_lt_of_cell? _ _ c_0; dsimp only at hsC; obtain ⟨i_0, i_1, i_2, i_3⟩ := I.box4; have hsI := World.block_lt_of_cell? _ _ i_0; dsimp only at hsI
      go_upto_region 2 with fail
      obtain ⟨w2, hW2⟩ : ∃ W, W = w0.alloc (.cells #[.int .i64 16, .int .i64 a, .int .i64 b, .string s] 57) := ⟨_, rfl⟩
      rw [← hW2]
      have hb2 : Below w0.heap.size w0 w2 := by rw [hW2]; go_grown
      have hw := hw.trans (hb2.mono hw.size)
      have C := C.below hb2
      have I := I.below hb2
      have J : RowAt w2 w0.heap.size 0 [.int .i64 16, .int .i64 a, .int .i64 b, .string s] := by rw [hW2]; exact RowAt.box w0 #[_, _, _, _] _
      clear hW2 hb2 c_0 c_1 i_0 i_1 i_2 i_3 hsC hsI
      obtain ⟨c_0, c_1⟩ := C.box2; have hsC := World.block_lt_of_cell? _ _ c_0; dsimp only at hsC; obtain ⟨i_0, i_1, i_2, i_3⟩ := I.box4; have hsI := World.block_lt_of_cell? _ _ i_0; dsimp only at hsI; obtain ⟨j_0, j_1, j_2, j_3⟩ := J.box4; have hsJ := World.block_lt_of_cell? _ _ j_0; dsimp only at hsJ
      go_upto_region 21 with (go_at_call 74; ((with_reducible refine (cl _).mono ?_); rintro e w1 ⟨rfl, rfl⟩))
      (refine wp_region_ext_lit (by kernel_rfl) (by kernel_rfl) ?_; (repeat (any_goals (first | go_big_quiet_step ((first | fail)) | quiet_step ((first | fail)) | (refine wpQuiet_step (fun K hK => ?_); go_simp; split <;> (refine hK _ ?_; clear hK K))))); all_goals (refine wpQuiet_nil ?_; rintro w1 ⟨⟨w2, hb⟩, rfl⟩; have hw := hw.trans (hb.mono hw.size); have C := C.below hb; obtain ⟨c_0, c_1⟩ := C.box2; have hsC := World.block_lt_of_cell? _ _ c_0; dsimp only at hsC; have I := I.below hb; obtain ⟨i_0, i_1, i_2, i_3⟩ := I.box4; have hsI := World.block_lt_of_cell? _ _ i_0; dsimp only at hsI; have J := J.below hb; obtain ⟨j_0, j_1, j_2, j_3⟩ := J.box4; have hsJ := World.block_lt_of_cell? _ _ j_0; dsimp only at hsJ; clear hb))
      all_goals go_wp2_with fail
      all_goals go_returns
      all_goals exact ⟨by first | rfl | (simp; done), hw⟩
    cases g16
    all_goals
      go_enter Tryz.func46, Tryz.ntmps46
      go_upto_region 1 with fail
      have C : RowAt (w.alloc (.cells #[.slice ia n ic, .slice pa m pc] 30)) (w.heap.size) 0 [.slice ia n ic, .slice pa m pc] := RowAt.box w #[.slice ia n ic, .slice pa m pc] 30
      have C := C.below (show Below (w.alloc (.cells #[.slice ia n ic, .slice pa m pc] 30)).heap.size (w.alloc (.cells #[.slice ia n ic, .slice pa m pc] 30)) ((w.alloc (.cells #[.slice ia n ic, .slice pa m pc] 30)).alloc (.cells #[.int .i64 16, .int .i64 a, .int .i64 b, .string s] 57)) by go_grown)
      have I : RowAt ((w.alloc (.cells #[.slice ia n ic, .slice pa m pc] 30)).alloc (.cells #[.int .i64 16, .int .i64 a, .int .i64 b, .string s] 57)) (w.heap.size + 1) 0 [.int .i64 16, .int .i64 a, .int .i64 b, .string s] := by have h := RowAt.box (w.alloc (.cells #[.slice ia n ic, .slice pa m pc] 30)) #[.int .i64 16, .int .i64 a, .int .i64 b, .string s] 57; simp only [World.size_alloc] at h; exact h
      have hw : Below w.heap.size w ((w.alloc (.cells #[.slice ia n ic, .slice pa m pc] 30)).alloc (.cells #[.int .i64 16, .int .i64 a, .int .i64 b, .string s] 57)) := by go_grown
      generalize ((w.alloc (.cells #[.slice ia n ic, .slice pa m pc] 30)).alloc (.cells #[.int .i64 16, .int .i64 a, .int .i64 b, .string s] 57)) = w0 at *
      obtain ⟨c_0, c_1⟩ := C.box2; have hsC := World.block_lt_of_cell? _ _ c_0; dsimp only at hsC; obtain ⟨i_0, i_1, i_2, i_3⟩ := I.box4; have hsI := World.block_lt_of_cell? _ _ i_0; dsimp only at hsI
      go_upto_region 2 with fail
      obtain ⟨w2, hW2⟩ : ∃ W, W = w0.alloc (.cells #[.int .i64 16, .int .i64 a, .int .i64 b, .string s] 57) := ⟨_, rfl⟩
      rw [← hW2]
      have hb2 : Below w0.heap.size w0 w2 := by rw [hW2]; go_grown
      have hw := hw.trans (hb2.mono hw.size)
      have C := C.below hb2
      have I := I.below hb2
      have J : RowAt w2 w0.heap.size 0 [.int .i64 16, .int .i64 a, .int .i64 b, .string s] := by rw [hW2]; exact RowAt.box w0 #[_, _, _, _] _
      clear hW2 hb2 c_0 c_1 i_0 i_1 i_2 i_3 hsC hsI
      obtain ⟨c_0, c_1⟩ := C.box2; have hsC := World.block_lt_of_cell? _ _ c_0; dsimp only at hsC; obtain ⟨i_0, i_1, i_2, i_3⟩ := I.box4; have hsI := World.block_lt_of_cell? _ _ i_0; dsimp only at hsI; obtain ⟨j_0, j_1, j_2, j_3⟩ := J.box4; have hsJ := World.block_lt_of_cell? _ _ j_0; dsimp only at hsJ
      go_upto_region 21 with (go_at_call 74; ((with_reducible refine (cl _).mono ?_); rintro e w1 ⟨rfl, rfl⟩))
      go_region_law ((first | (go_simp; go_at_call 77; ((with_reducible refine (primOps_c _).mono ?_); rintro e w1 ⟨g, rfl, hS, hb⟩; have hw1 := hw.trans (Below.trans (by go_grown) (hb.mono (by go_grown)) : Below w.heap.size w2 w1); have i_3' : w1.cell? ⟨w.heap.size + 1, 3, none⟩ = some (.string s) := cell_below hb i_3)) | (go_simp; go_at_call 72; ((with_reducible refine (cp.out _ _ hS).mono ?_); rintro e w3 ⟨rfl, hb3⟩))))
      all_goals go_wp2_with fail
      all_goals go_returns
      all_goals exact ⟨rfl, hw1.trans (hb3.mono hw1.size)⟩
  · rw [hl] at cl
    subst hq
    clear cg cp cs hpo hl
    cases e1 : decide (1 ≤ op ∧ op ≤ 25) <;> cases e2 : (a == 0) <;> cases e3 : (b == 0) <;> cases e4 : s.toList.isEmpty
    all_goals
      have cw1 := fun W => cw op 1 25 W
      rw [e1] at cw1
      clear e1 cw
      go_enter Tryz.func46, Tryz.ntmps46
      go_wp2_with (first | (go_at_call 74; ((with_reducible refine (cl _).mono ?_); rintro e w1 ⟨rfl, rfl⟩)) | (go_at_call 40; ((with_reducible refine (cw1 _).mono ?_); rintro e w1 ⟨rfl, rfl⟩)))
      go_returns
      exact ⟨by first | rfl | (simp; done) | (simp_all; done), by go_grown⟩

end Go.Proofs.YtfobkbjabenkkaaGreat

/- A value's node: when it is right; the program's test. -/
namespace Go.Proofs.YtfobkbjabenkkaaGreat
open Go.RowKit
set_option linter.unusedVariables false
set_option linter.unusedSimpArgs false
attribute [local go_sem] Ext.cell

def kindAt (l : List GDNode) (k : Int) : Int := if 0 ≤ k then (l[k.toNat]?.map (·.kind)).getD 0 else 0
def pairOf (l : List GDNode) (ks : List Int) : Bool := match ks with
  | [k] => kindAt l k == 5
  | _ => false
def nodeOk (l : List GDNode) (x : GDNode) : Bool :=
  if x.kind = 3 then ((x.kids.length : Int) == 0) && (x.s.toList.isEmpty && decide (-4611686018427387904 ≤ x.n ∧ x.n ≤ 4611686018427387903))
  else if x.kind = 2 then ((x.kids.length : Int) == 0) && (x.n == 0)
  else if x.kind = 6 then ((x.kids.length : Int) == 0) && ((x.n == 0) && x.s.toList.isEmpty)
  else if x.kind = 5 then ((x.kids.length : Int) == 2) && ((x.n == 0) && x.s.toList.isEmpty)
  else if x.kind = 4 then (x.n == 0) && conShape x.s x.kids.length (pairOf l x.kids)
  else false

end Go.Proofs.YtfobkbjabenkkaaGreat
