/- Parts of the proof, merged: Idle2. -/
import Derived.Test.YtfobkbjabenkkaaGreatPe37
/- Idle: the program's. -/
namespace Go.Proofs.YtfobkbjabenkkaaGreat
open Go.RowKit
set_option linter.unusedVariables false
set_option linter.unusedSimpArgs false
attribute [local go_sem] Ext.cell

set_option maxRecDepth 100000 in
set_option maxHeartbeats 16000000 in
theorem Idle_o (c : GCode) (hS : CodeCopy c) (r : List Value) (lo : Nat) (w : World) (hr : GCode.R lo w r c) :
    Calls Tryz.prog 23 #[.agg r.toArray] w (CopyPost (idleP c) w) := by
  have cK := fun W (hW : Below w.heap.size w W) => CodeOk_c c hS.small r lo W (GCode.good.below hr hW)
  have cF := fun (u : Value) (hl : (idlePl c.ins c.ins.length).length ≤ 1048576) W (hW : Below w.heap.size w W) (hu : Sl IntR 1 0 W u (idlePl c.ins c.ins.length)) => kept_o c hS _ hl r u 0 W (GCode.good.mono (GCode.good.below hr hW) (Nat.zero_le _)) hu
  obtain ⟨u0, u1, rfl, _, h0, h1⟩ := hr
  obtain ⟨ia, ic, rfl, il, im, h0⟩ := h0
  obtain ⟨pa, pc, rfl⟩ := h1.form
  unfold idleP
  cases hq : codeOk c
  · rw [hq] at cK
    rw [if_neg (by decide)]
    clear hq cF h0 h1 il im hS
    replace cK := Lib.hid cK
    generalize c.ins.length = n at *
    generalize c.pats.length = m at *
    go_enter Tryz.func23, Tryz.ntmps23
    go_upto_region 1 with fail
    have C : RowAt (w.alloc (.cells #[.slice ia n ic, .slice pa m pc] 30)) (w.heap.size) 0 [.slice ia n ic, .slice pa m pc] := RowAt.box w #[.slice ia n ic, .slice pa m pc] 30
    have C := C.below (show Below (w.alloc (.cells #[.slice ia n ic, .slice pa m pc] 30)).heap.size (w.alloc (.cells #[.slice ia n ic, .slice pa m pc] 30)) ((w.alloc (.cells #[.slice ia n ic, .slice pa m pc] 30)).alloc (.cells #[.slice none 0 0, .slice none 0 0] 30)) by go_grown)
    have E : RowAt ((w.alloc (.cells #[.slice ia n ic, .slice pa m pc] 30)).alloc (.cells #[.slice none 0 0, .slice none 0 0] 30)) (w.heap.size + 1) 0 [.slice none 0 0, .slice none 0 0] := by have h := RowAt.box (w.alloc (.cells #[.slice ia n ic, .slice pa m pc] 30)) #[.slice none 0 0, .slice none 0 0] 30; simp only [World.size_alloc] at h; exact h
    have EW : Wr ((w.alloc (.cells #[.slice ia n ic, .slice pa m pc] 30)).alloc (.cells #[.slice none 0 0, .slice none 0 0] 30)) (w.heap.size + 1) 0 2 := by have h := Wr.box (w.alloc (.cells #[.slice ia n ic, .slice pa m pc] 30)) #[.slice none 0 0, .slice none 0 0] 30; simp only [World.size_alloc] at h; exact h
    have hw : Below w.heap.size w ((w.alloc (.cells #[.slice ia n ic, .slice pa m pc] 30)).alloc (.cells #[.slice none 0 0, .slice none 0 0] 30)) := by go_grown
    generalize ((w.alloc (.cells #[.slice ia n ic, .slice pa m pc] 30)).alloc (.cells #[.slice none 0 0, .slice none 0 0] 30)) = w0 at *
    obtain ⟨c_0, c_1⟩ := C.box2; have hsC := World.block_lt_of_cell? _ _ c_0; dsimp only at hsC; have ef_0 := EW.frz 0 (by omega); have ef_1 := EW.frz 1 (by omega); obtain ⟨e_0, e_1⟩ := E.box2; have hsE := World.block_lt_of_cell? _ _ e_0; dsimp only at hsE
    go_wp2_with (go_at_call 20; ((with_reducible refine (cK.out _ hw).mono ?_); rintro e w1 ⟨rfl, hb⟩; have hw := hw.trans (hb.mono hw.size); have C := C.below hb; obtain ⟨c_0, c_1⟩ := C.box2; have hsC := World.block_lt_of_cell? _ _ c_0; dsimp only at hsC; have EW := EW.below hb; have ef_0 := EW.frz 0 (by omega); have ef_1 := EW.frz 1 (by omega); have E := E.below hb; obtain ⟨e_0, e_1⟩ := E.box2; have hsE := World.block_lt_of_cell? _ _ e_0; dsimp only at hsE; clear hb))
    obtain ⟨w9, hw9, g_0, g_1, k9, b9⟩ := set2_box (lo := w.heap.size) (.slice none 0 0) (.slice none 0 0) e_0 e_1 (by omega)
    rw [← hw9]
    refine bodyPost_ret (ret_code (a := 2) Tryz.results23 rfl g_0 g_1) rfl ?_
    exact CopyPost.zero (hw.trans b9)
  · rw [hq] at cK
    rw [if_pos rfl]
    obtain ⟨n1, n2, _, _⟩ := codeOk_all hq
    obtain ⟨n, hn⟩ : ∃ n, n = c.ins.length := ⟨_, rfl⟩
    obtain ⟨m, hm⟩ : ∃ m, m = c.pats.length := ⟨_, rfl⟩
    obtain ⟨is, qs⟩ := c
    dsimp only at *
    rw [← hn] at il n1 n2
    rw [← hn, ← hm] at cK cF ⊢
    clear h1 hS hq
    generalize hres : keptP ⟨is, qs⟩ (idlePl is n) = R at *
    clear hres
    replace hn := Lib.hid hn; replace hm := Lib.hid hm; replace h0 := Lib.hid h0; replace cK := Lib.hid cK; replace cF := Lib.hid cF
    obtain ⟨iJ, hi0, hz0, hz1, hz2⟩ := info_parts info_IntS; have IJ := Lib.hid hi0; have IJ0 := Lib.hid hz0; have IJ1 := Lib.hid hz1; have IJ2 := Lib.hid hz2; clear hi0 hz0 hz1 hz2
    go_enter Tryz.func23, Tryz.ntmps23
    go_upto_region 1 with fail
    have C : RowAt (w.alloc (.cells #[.slice ia n ic, .slice pa m pc] 30)) (w.heap.size) 0 [.slice ia n ic, .slice pa m pc] := RowAt.box w #[.slice ia n ic, .slice pa m pc] 30
    have C := C.below (show Below (w.alloc (.cells #[.slice ia n ic, .slice pa m pc] 30)).heap.size (w.alloc (.cells #[.slice ia n ic, .slice pa m pc] 30)) ((w.alloc (.cells #[.slice ia n ic, .slice pa m pc] 30)).alloc (.cells #[.slice none 0 0, .slice none 0 0] 30)) by go_grown)
    have E : RowAt ((w.alloc (.cells #[.slice ia n ic, .slice pa m pc] 30)).alloc (.cells #[.slice none 0 0, .slice none 0 0] 30)) (w.heap.size + 1) 0 [.slice none 0 0, .slice none 0 0] := by have h := RowAt.box (w.alloc (.cells #[.slice ia n ic, .slice pa m pc] 30)) #[.slice none 0 0, .slice none 0 0] 30; simp only [World.size_alloc] at h; exact h
    have EW : Wr ((w.alloc (.cells #[.slice ia n ic, .slice pa m pc] 30)).alloc (.cells #[.slice none 0 0, .slice none 0 0] 30)) (w.heap.size + 1) 0 2 := by have h := Wr.box (w.alloc (.cells #[.slice ia n ic, .slice pa m pc] 30)) #[.slice none 0 0, .slice none 0 0] 30; simp only [World.size_alloc] at h; exact h
    have hw : Below w.heap.size w ((w.alloc (.cells #[.slice ia n ic, .slice pa m pc] 30)).alloc (.cells #[.slice none 0 0, .slice none 0 0] 30)) := by go_grown
    generalize ((w.alloc (.cells #[.slice ia n ic, .slice pa m pc] 30)).alloc (.cells #[.slice none 0 0, .slice none 0 0] 30)) = w0 at *
    obtain ⟨c_0, c_1⟩ := C.box2; have hsC := World.block_lt_of_cell? _ _ c_0; dsimp only at hsC; have ef_0 := EW.frz 0 (by omega); have ef_1 := EW.frz 1 (by omega); obtain ⟨e_0, e_1⟩ := E.box2; have hsE := World.block_lt_of_cell? _ _ e_0; dsimp only at hsE
    go_upto_region 3 with (go_at_call 20; ((with_reducible refine (cK.out _ hw).mono ?_); rintro e w1 ⟨rfl, hb⟩; have hw := hw.trans (hb.mono hw.size); have C := C.below hb; obtain ⟨c_0, c_1⟩ := C.box2; have hsC := World.block_lt_of_cell? _ _ c_0; dsimp only at hsC; have EW := EW.below hb; have ef_0 := EW.frz 0 (by omega); have ef_1 := EW.frz 1 (by omega); have E := E.below hb; obtain ⟨e_0, e_1⟩ := E.box2; have hsE := World.block_lt_of_cell? _ _ e_0; dsimp only at hsE; clear hb))
    go_upto_region 4 with fail
    obtain ⟨w2, hW2⟩ : ∃ W, W = w1.alloc (.cells #[] 3) := ⟨_, rfl⟩
    rw [← hW2]
    have hb2 : Below w1.heap.size w1 w2 := by rw [hW2]; go_grown
    have O2 : OwnF 3 1 intRow I64 w1.heap.size w2 (.slice (some ⟨w1.heap.size, 0, none⟩) 0 0) ([] : List Int) := ⟨own_empty_at (by rw [hW2]; exact heap_alloc_new' _ _ _ rfl) (Nat.le_refl _), fun x hx => by cases hx⟩
    have hs2 : w1.heap.size < w2.heap.size := by rw [hW2]; simp
    have C := C.below hb2
    have E := E.below hb2
    have EW := EW.below hb2
    have hw := hw.trans (hb2.mono hw.size)
    obtain ⟨B1, hB1⟩ : ∃ x, x = w1.heap.size := ⟨_, rfl⟩
    rw [← hB1] at O2 hs2 hsE ⊢
    clear hW2 hb2 c_0 c_1 e_0 e_1 ef_0 ef_1 hsC cK
    replace hB1 := Lib.hid hB1; replace O2 := Lib.hid O2
    obtain ⟨c_0, c_1⟩ := C.box2; have hsC := World.block_lt_of_cell? _ _ c_0; dsimp only at hsC
    go_wp2_with fail
    go_loopw [3, 14] (fun v i wr => ∃ k : Nat, k ≤ n ∧ i = .int .i64 k ∧ Below w.heap.size w wr ∧ w2.heap.size ≤ wr.heap.size ∧ RowAt wr w.heap.size 0 [.slice ia n ic, .slice pa m pc] ∧ RowAt wr (w.heap.size + 1) 0 [.slice none 0 0, .slice none 0 0] ∧ Wr wr (w.heap.size + 1) 0 2 ∧ Hid (OwnF 3 1 intRow I64 B1 wr v (idlePl is k))) (fun _ i _ => n - (intOf i).toNat)
    case atStart => exact ⟨0, by omega, rfl, hw, Nat.le_refl _, C, E, EW, O2⟩
    case round =>
      clear hw C E EW O2 c_0 c_1 hsC
      obtain ⟨k, hk, rfl, hw, hz, C2, E2, E2W, hO⟩ := hrel
      obtain ⟨va, vc, rfl⟩ := hO.out.form
      have hll := idlePl_len is k
      obtain ⟨lk, hlk⟩ : ∃ x, x = (idlePl is k).length := ⟨_, rfl⟩
      rw [← hlk] at hO hll ⊢
      by_cases hlt : k < n
      · obtain ⟨b1, o1, x, s1', _, hab, P1, ⟨rfl, hwf⟩, r1⟩ := (h0.out.below GIns.good hw).get hn hlt
        have hskip := idlePl_skip P1.out
        have htake := idlePl_take P1.out
        obtain ⟨op, a, b, s⟩ := x
        obtain ⟨r_0, r_1, r_2, r_3⟩ := r1.cells4
        have hwfa := hwf.2.1
        dsimp only at *
        clear r1 hwf
        subst hab
        go_upto_region 7 with fail
        obtain ⟨w4, hW4⟩ : ∃ W, W = wr.alloc (.cells #[.int .i64 op, .int .i64 a, .int .i64 b, .string s] 57) := ⟨_, rfl⟩
        rw [← hW4]
        have hb4 : Below wr.heap.size wr w4 := by rw [hW4]; go_grown
        have Q : RowAt w4 wr.heap.size 0 [.int .i64 op, .int .i64 a, .int .i64 b, .string s] := by rw [hW4]; exact RowAt.box wr #[_, _, _, _] _
        have hs4 : wr.heap.size < w4.heap.size := by rw [hW4]; simp
        have C4 := C2.below hb4
        have E4 := E2.below hb4
        have E4W := E2W.below hb4
        have O4 := hO.out.below hb4
        have hw4 := hw.trans (hb4.mono hw.size)
        have own4 : w4.ownsRow B1 3 1 (.slice va lk vc) lk (rowsOf intRow (idlePl is k)) := by have h := O4.1; rw [← hlk] at h; exact h
        have hwo := O4.2
        have hob := own_base own4
        have hk64 : I64 ((k : Nat) : Int) := by constructor <;> omega
        clear hW4 hb4 r_0 r_1 r_2 r_3 C2 E2 E2W hO hw
        replace hob := Lib.hid hob; replace hwo := Lib.hid hwo; replace hlk := Lib.hid hlk; replace own4 := Lib.hid own4; replace O4 := Lib.hid O4
        have hk1 : (k : Int) + 1 ≤ 9223372036854775807 := by omega
        obtain ⟨q_0, q_1, q_2, q_3⟩ := Q.box4; have hsQ := World.block_lt_of_cell? _ _ q_0; dsimp only at hsQ
        -- the ways
        by_cases h15 : op = 15
        · subst h15
          by_cases ha : a = 0
          · subst ha
            have OS : Hid (OwnF 3 1 intRow I64 B1 w4 (.slice va lk vc) (idlePl is (k + 1))) := by rw [hskip (by simp [idleSkip])]; exact O4.out
            clear hskip htake O4 own4
            go_wp2_with fail
            go_roundw
            case rel => exact ⟨k + 1, by omega, by go_num, hw4, by omega, C4, E4, E4W, OS⟩
            case measure => simp [intOf]; omega
          · have d0 : (a == 0) = false := by simpa using ha
            have htk : Hid (idlePl is (k + 1) = idlePl is k ++ [(k : Int)]) := htake (by simp [idleSkip, ha])
            clear hskip htake
            clear ha
            go_upto_region 9 with (at_builtin; refine wpList_append_lies _ rfl _ _ _ rfl (B1) 3 iJ _ 1 8 Tryz.underlying60 IJ.out IJ0.out IJ1.out IJ2.out rfl (by omega) (.slice va lk vc) (lk) (rowsOf intRow (idlePl is k)) rfl (own_below own4.out (by go_grown)) ⟨w4.heap.size, 0, none⟩ 1 1 [.int .i64 (k : Int)] rfl rfl (World.news_of_block (cs := #[.int .i64 (k : Int)]) (t := 3) (fr := (0, 0)) (heap_alloc_new' _ _ _ (by simp))) (by intro u hu; simp at hu; (first | (subst hu; rfl) | (rcases hu with rfl | rfl | rfl | rfl <;> rfl) | (rcases hu with rfl | rfl | rfl | rfl | rfl | rfl | rfl | rfl | rfl <;> rfl))) (by omega) (by unfold maxLen; omega) (by omega) (by simp; omega) _ rfl ?_; intro g2 cap2 w5 hown hgrow hat hlt2)
            have k5 := kept_of hgrow (w := w4) (by go_grown)
            have hkE : ∀ q, q < B1 → ¬ some q = (Value.slice va lk vc).ownBlock := fun q hq h => by have := (hob.out _ h.symm).1; omega
            have C5 := C4.kept k5 (hkE _ (by omega))
            have E5 := E4.kept k5 (hkE _ (by omega))
            have E5W := E4W.kept k5 (hkE _ (by omega))
            have hz45 := hgrow.size
            simp only [World.size_alloc] at hz45
            have hw5 : Below w.heap.size w w5 := below_grown2 (wr := w4) (w := w) (base := w.heap.size) hgrow (by go_grown) hw4 hw4.size (own_lo own4.out (by omega))
            have O5 : Hid (OwnF 3 1 intRow I64 B1 w5 (.slice (some ⟨g2, 0, none⟩) (lk + 1) cap2) (idlePl is (k + 1))) := by
              refine ⟨?_, fun y hy => ?_⟩
              · rw [htk.out, List.length_append, List.length_singleton, ← hlk.out, rowsOf_append, rowsOf_one]
                exact hown
              · rw [htk.out] at hy
                rcases List.mem_append.1 hy with h | h
                · exact hwo.out y h
                · simp only [List.mem_singleton] at h; rw [h]; exact hk64
            have hz5 : w2.heap.size ≤ w5.heap.size := by omega
            clear hown hgrow hat hlt2 k5 hkE own4 O4 C4 E4 E4W
            go_wp2_with fail
            go_roundw
            case rel => exact ⟨k + 1, by omega, by go_num, hw5, hz5, C5, E5, E5W, O5⟩
            case measure => simp [intOf]; omega
        · by_cases h12 : op = 12
          · subst h12
            by_cases ha : a = (k : Int) + 1
            · have d0 : (a == (k : Int) + 1) = true := by simpa using ha
              have OS : Hid (OwnF 3 1 intRow I64 B1 w4 (.slice va lk vc) (idlePl is (k + 1))) := by rw [hskip (by simp [idleSkip, ha])]; exact O4.out
              clear hskip htake O4 own4
              replace ha := Lib.hid ha
              go_wp2_with fail
              go_roundw
              case rel => exact ⟨k + 1, by omega, by go_num, hw4, by omega, C4, E4, E4W, OS⟩
              case measure => simp [intOf]; omega
            · have d0 : (a == (k : Int) + 1) = false := by simpa using ha
              have htk : Hid (idlePl is (k + 1) = idlePl is k ++ [(k : Int)]) := htake (by simp [idleSkip, ha])
              clear hskip htake
              clear ha h15
              go_upto_region 9 with (at_builtin; refine wpList_append_lies _ rfl _ _ _ rfl (B1) 3 iJ _ 1 8 Tryz.underlying60 IJ.out IJ0.out IJ1.out IJ2.out rfl (by omega) (.slice va lk vc) (lk) (rowsOf intRow (idlePl is k)) rfl (own_below own4.out (by go_grown)) ⟨w4.heap.size, 0, none⟩ 1 1 [.int .i64 (k : Int)] rfl rfl (World.news_of_block (cs := #[.int .i64 (k : Int)]) (t := 3) (fr := (0, 0)) (heap_alloc_new' _ _ _ (by simp))) (by intro u hu; simp at hu; (first | (subst hu; rfl) | (rcases hu with rfl | rfl | rfl | rfl <;> rfl) | (rcases hu with rfl | rfl | rfl | rfl | rfl | rfl | rfl | rfl | rfl <;> rfl))) (by omega) (by unfold maxLen; omega) (by omega) (by simp; omega) _ rfl ?_; intro g2 cap2 w5 hown hgrow hat hlt2)
              have k5 := kept_of hgrow (w := w4) (by go_grown)
              have hkE : ∀ q, q < B1 → ¬ some q = (Value.slice va lk vc).ownBlock := fun q hq h => by have := (hob.out _ h.symm).1; omega
              have C5 := C4.kept k5 (hkE _ (by omega))
              have E5 := E4.kept k5 (hkE _ (by omega))
              have E5W := E4W.kept k5 (hkE _ (by omega))
              have hz45 := hgrow.size
              simp only [World.size_alloc] at hz45
              have hw5 : Below w.heap.size w w5 := below_grown2 (wr := w4) (w := w) (base := w.heap.size) hgrow (by go_grown) hw4 hw4.size (own_lo own4.out (by omega))
              have O5 : Hid (OwnF 3 1 intRow I64 B1 w5 (.slice (some ⟨g2, 0, none⟩) (lk + 1) cap2) (idlePl is (k + 1))) := by
                refine ⟨?_, fun y hy => ?_⟩
                · rw [htk.out, List.length_append, List.length_singleton, ← hlk.out, rowsOf_append, rowsOf_one]
                  exact hown
                · rw [htk.out] at hy
                  rcases List.mem_append.1 hy with h | h
                  · exact hwo.out y h
                  · simp only [List.mem_singleton] at h; rw [h]; exact hk64
              have hz5 : w2.heap.size ≤ w5.heap.size := by omega
              clear hown hgrow hat hlt2 k5 hkE own4 O4 C4 E4 E4W
              go_wp2_with fail
              go_roundw
              case rel => exact ⟨k + 1, by omega, by go_num, hw5, hz5, C5, E5, E5W, O5⟩
              case measure => simp [intOf]; omega
          · have d15 : (op == 15) = false := by simpa using h15
            have d12 : (op == 12) = false := by simpa using h12
            have htk : Hid (idlePl is (k + 1) = idlePl is k ++ [(k : Int)]) := htake (by simp [idleSkip, h15, h12])
            clear hskip htake
            clear h15 h12
            go_upto_region 9 with (at_builtin; refine wpList_append_lies _ rfl _ _ _ rfl (B1) 3 iJ _ 1 8 Tryz.underlying60 IJ.out IJ0.out IJ1.out IJ2.out rfl (by omega) (.slice va lk vc) (lk) (rowsOf intRow (idlePl is k)) rfl (own_below own4.out (by go_grown)) ⟨w4.heap.size, 0, none⟩ 1 1 [.int .i64 (k : Int)] rfl rfl (World.news_of_block (cs := #[.int .i64 (k : Int)]) (t := 3) (fr := (0, 0)) (heap_alloc_new' _ _ _ (by simp))) (by intro u hu; simp at hu; (first | (subst hu; rfl) | (rcases hu with rfl | rfl | rfl | rfl <;> rfl) | (rcases hu with rfl | rfl | rfl | rfl | rfl | rfl | rfl | rfl | rfl <;> rfl))) (by omega) (by unfold maxLen; omega) (by omega) (by simp; omega) _ rfl ?_; intro g2 cap2 w5 hown hgrow hat hlt2)
            have k5 := kept_of hgrow (w := w4) (by go_grown)
            have hkE : ∀ q, q < B1 → ¬ some q = (Value.slice va lk vc).ownBlock := fun q hq h => by have := (hob.out _ h.symm).1; omega
            have C5 := C4.kept k5 (hkE _ (by omega))
            have E5 := E4.kept k5 (hkE _ (by omega))
            have E5W := E4W.kept k5 (hkE _ (by omega))
            have hz45 := hgrow.size
            simp only [World.size_alloc] at hz45
            have hw5 : Below w.heap.size w w5 := below_grown2 (wr := w4) (w := w) (base := w.heap.size) hgrow (by go_grown) hw4 hw4.size (own_lo own4.out (by omega))
            have O5 : Hid (OwnF 3 1 intRow I64 B1 w5 (.slice (some ⟨g2, 0, none⟩) (lk + 1) cap2) (idlePl is (k + 1))) := by
              refine ⟨?_, fun y hy => ?_⟩
              · rw [htk.out, List.length_append, List.length_singleton, ← hlk.out, rowsOf_append, rowsOf_one]
                exact hown
              · rw [htk.out] at hy
                rcases List.mem_append.1 hy with h | h
                · exact hwo.out y h
                · simp only [List.mem_singleton] at h; rw [h]; exact hk64
            have hz5 : w2.heap.size ≤ w5.heap.size := by omega
            clear hown hgrow hat hlt2 k5 hkE own4 O4 C4 E4 E4W
            go_wp2_with fail
            go_roundw
            case rel => exact ⟨k + 1, by omega, by go_num, hw5, hz5, C5, E5, E5W, O5⟩
            case measure => simp [intOf]; omega
      · obtain rfl : k = n := by omega
        have hSl := hO.out.sl flatInt
        have hc := cF.out (.slice va lk vc) (by rw [← hlk]; omega) wr hw (hSl.mono IntR.good (Nat.zero_le _))
        replace hc := Lib.hid hc; replace hlk := Lib.hid hlk
        clear hSl hO
        obtain ⟨c2_0, c2_1⟩ := C2.box2; have hsC2 := World.block_lt_of_cell? _ _ c2_0; dsimp only at hsC2; have e2f_0 := E2W.frz 0 (by omega); have e2f_1 := E2W.frz 1 (by omega); obtain ⟨e2_0, e2_1⟩ := E2.box2; have hsE2 := World.block_lt_of_cell? _ _ e2_0; dsimp only at hsE2
        have hsE9 := hsE2
        go_wp2_with (go_at_call 49; (with_reducible refine (hc.out).mono ?_); rintro e w3 ⟨r', bs, rfl, O3, nd3, f3, hb⟩; obtain ⟨y0, q0, y1, q1, rfl, hbs, hwf3, t0, t1⟩ := O3; obtain ⟨ya, yc, rfl⟩ := t0.form; obtain ⟨yb, yd, rfl⟩ := t1.form; have O3 : GCode.O bs w3 [.slice ya R.ins.length yc, .slice yb R.pats.length yd] R := ⟨_, q0, _, q1, rfl, hbs, hwf3, t0, t1⟩; clear hbs t0 t1; replace O3 := Lib.hid O3; replace nd3 := Lib.hid nd3; replace f3 := Lib.hid f3; have hw := hw.trans (hb.mono hw.size); have C2 := C2.below hb; obtain ⟨c2_0, c2_1⟩ := C2.box2; have hsC2 := World.block_lt_of_cell? _ _ c2_0; dsimp only at hsC2; have E2W := E2W.below hb; have e2f_0 := E2W.frz 0 (by omega); have e2f_1 := E2W.frz 1 (by omega); have E2 := E2.below hb; obtain ⟨e2_0, e2_1⟩ := E2.box2; have hsE2 := World.block_lt_of_cell? _ _ e2_0; dsimp only at hsE2; clear hb)
        obtain ⟨w9, hw9, g_0, g_1, k9, b9⟩ := set2_box (lo := w.heap.size) (.slice ya R.ins.length yc) (.slice yb R.pats.length yd) e2_0 e2_1 (by omega)
        rw [← hw9]
        refine bodyPost_ret (ret_code (a := 2) Tryz.results23 rfl g_0 g_1) rfl ?_
        exact CopyPost.stored O3.out nd3.out (fun b hb => by have := f3.out b hb; omega) k9 (hw.trans b9)

end Go.Proofs.YtfobkbjabenkkaaGreat
