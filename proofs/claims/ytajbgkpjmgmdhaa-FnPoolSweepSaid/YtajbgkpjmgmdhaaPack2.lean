/- impl.moved, and the program's packing. -/
import Derived.Test.YtajbgkpjmgmdhaaPack
import Derived.Test.YtajbgkpjmgmdhaaPoolBox
namespace Go.Proofs.Ytajbgkpjmgmdhaa
open Go.RowKit
set_option linter.unusedVariables false
set_option linter.unusedSimpArgs false
attribute [local go_sem] Ext.cell

theorem RowAt.of3 {W : World} {b : Nat} {u v t : Value} (h0 : W.cell? ⟨b, 0, none⟩ = some u) (h1 : W.cell? ⟨b, 1, none⟩ = some v) (h2 : W.cell? ⟨b, 2, none⟩ = some t) : RowAt W b 0 [u, v, t] := fun j c hc => by
  rcases j with _ | _ | _ | j
  · obtain rfl : u = c := by simpa using hc
    exact h0
  · obtain rfl : v = c := by simpa using hc
    exact h1
  · obtain rfl : t = c := by simpa using hc
    exact h2
  · simp at hc
theorem stored3 {W : World} {b : Nat} {x y z : Value} {u v t : Value} (h0 : W.cell? ⟨b, 0, none⟩ = some u) (h1 : W.cell? ⟨b, 1, none⟩ = some v) (h2 : W.cell? ⟨b, 2, none⟩ = some t) :
    (W.setCell ⟨b, 0, none⟩ x).cell? ⟨b, 0, none⟩ = some x ∧ ((W.setCell ⟨b, 0, none⟩ x).setCell ⟨b, 1, none⟩ y).cell? ⟨b, 1, none⟩ = some y ∧ (((W.setCell ⟨b, 0, none⟩ x).setCell ⟨b, 1, none⟩ y).setCell ⟨b, 2, none⟩ z).cell? ⟨b, 2, none⟩ = some z :=
  ⟨cell_setCell_eq W b 0 x h0, cell_setCell_eq _ b 1 y ((cell_setCell_ne W b 0 1 x (by omega)).trans h1), cell_setCell_eq _ b 2 z ((cell_setCell_ne _ b 1 2 y (by omega)).trans ((cell_setCell_ne W b 0 2 x (by omega)).trans h2))⟩
theorem below_set3 {B b : Nat} {w W : World} (hb : Below B w W) (h : B ≤ b) (x y z : Value) : Below B w (((W.setCell ⟨b, 0, none⟩ x).setCell ⟨b, 1, none⟩ y).setCell ⟨b, 2, none⟩ z) :=
  ((hb.setCell (p := ⟨b, 0, none⟩) h x).setCell (p := ⟨b, 1, none⟩) h y).setCell (p := ⟨b, 2, none⟩) h z
set_option maxRecDepth 100000 in
set_option maxHeartbeats 4000000 in
theorem moved_c (v : GVal) (at_ : List Int) (u : Value) (lo : Nat) (hv : IsCell at_.length v) (w : World) (hu : Sl IntR 1 lo w u at_) :
    Calls Try.prog 80 #[.agg #[.int .i64 v.kind, .int .i64 v.n, .string v.s], u] w fun e w' => e = .returned (.agg #[.int .i64 (movedP at_ v).kind, .int .i64 (movedP at_ v).n, .string (movedP at_ v).s]) ∧ Below w.heap.size w w' := by
  obtain ⟨ua, uc, rfl, ul, um, h0⟩ := hu
  obtain ⟨vk, vn, vs⟩ := v
  dsimp only at *
  obtain ⟨n, hn⟩ : ∃ n, n = at_.length := ⟨_, rfl⟩
  rw [← hn] at ul hv ⊢
  by_cases h6 : vk = 6
  · subst h6
    obtain ⟨k, rfl, hkn⟩ := hv rfl
    obtain ⟨b1, o1, x, s1, _, rfl, P1, ⟨rfl, hx64⟩, r1⟩ := h0.get hn hkn
    rw [Nat.mul_one] at r1
    have hm : movedP at_ ⟨6, (k : Int), vs⟩ = ⟨6, x, vs⟩ := by unfold movedP; rw [if_pos rfl, Int.toNat_natCast, List.getD_eq_getElem?_getD, P1]; rfl
    rw [hm]
    replace hm := Lib.hid hm; replace P1 := Lib.hid P1; replace hv := Lib.hid hv; replace h0 := Lib.hid h0; replace hn := Lib.hid hn
    clear hx64
    go_enter Try.func80, Try.ntmps80
    go_upto_region 1 with fail
    have D : RowAt (w.alloc (.cells #[.int .i64 6, .int .i64 (k : Int), .string vs] 28)) (w.heap.size) 0 [.int .i64 6, .int .i64 (k : Int), .string vs] := RowAt.box w #[.int .i64 6, .int .i64 (k : Int), .string vs] 28
    have DW : Wr (w.alloc (.cells #[.int .i64 6, .int .i64 (k : Int), .string vs] 28)) (w.heap.size) 0 3 := Wr.box w #[.int .i64 6, .int .i64 (k : Int), .string vs] 28
    have D := D.below (show Below (w.alloc (.cells #[.int .i64 6, .int .i64 (k : Int), .string vs] 28)).heap.size (w.alloc (.cells #[.int .i64 6, .int .i64 (k : Int), .string vs] 28)) ((w.alloc (.cells #[.int .i64 6, .int .i64 (k : Int), .string vs] 28)).alloc (.cells #[.int .i64 0, .int .i64 0, .string ⟨#[]⟩] 28)) by go_grown)
    have DW := DW.below (show Below (w.alloc (.cells #[.int .i64 6, .int .i64 (k : Int), .string vs] 28)).heap.size (w.alloc (.cells #[.int .i64 6, .int .i64 (k : Int), .string vs] 28)) ((w.alloc (.cells #[.int .i64 6, .int .i64 (k : Int), .string vs] 28)).alloc (.cells #[.int .i64 0, .int .i64 0, .string ⟨#[]⟩] 28)) by go_grown)
    have E : RowAt ((w.alloc (.cells #[.int .i64 6, .int .i64 (k : Int), .string vs] 28)).alloc (.cells #[.int .i64 0, .int .i64 0, .string ⟨#[]⟩] 28)) (w.heap.size + 1) 0 [.int .i64 0, .int .i64 0, .string ⟨#[]⟩] := by have h := RowAt.box (w.alloc (.cells #[.int .i64 6, .int .i64 (k : Int), .string vs] 28)) #[.int .i64 0, .int .i64 0, .string ⟨#[]⟩] 28; simp only [World.size_alloc] at h; exact h
    have EW : Wr ((w.alloc (.cells #[.int .i64 6, .int .i64 (k : Int), .string vs] 28)).alloc (.cells #[.int .i64 0, .int .i64 0, .string ⟨#[]⟩] 28)) (w.heap.size + 1) 0 3 := by have h := Wr.box (w.alloc (.cells #[.int .i64 6, .int .i64 (k : Int), .string vs] 28)) #[.int .i64 0, .int .i64 0, .string ⟨#[]⟩] 28; simp only [World.size_alloc] at h; exact h
    have hw : Below w.heap.size w ((w.alloc (.cells #[.int .i64 6, .int .i64 (k : Int), .string vs] 28)).alloc (.cells #[.int .i64 0, .int .i64 0, .string ⟨#[]⟩] 28)) := by go_grown
    generalize ((w.alloc (.cells #[.int .i64 6, .int .i64 (k : Int), .string vs] 28)).alloc (.cells #[.int .i64 0, .int .i64 0, .string ⟨#[]⟩] 28)) = w0 at *
    have R1 := (r1.below hw).cells1
    have hb1 := World.block_lt_of_cell? _ _ (r1.cells1); dsimp only at hb1
    have df_0 := DW.frz 0 (by omega); have df_1 := DW.frz 1 (by omega); have df_2 := DW.frz 2 (by omega); obtain ⟨d_0, d_1, d_2⟩ := D.box3; have hsD := World.block_lt_of_cell? _ _ d_0; dsimp only at hsD; have ef_0 := EW.frz 0 (by omega); have ef_1 := EW.frz 1 (by omega); have ef_2 := EW.frz 2 (by omega); obtain ⟨e_0, e_1, e_2⟩ := E.box3; have hsE := World.block_lt_of_cell? _ _ e_0; dsimp only at hsE
    go_upto_region 3 with fail
    obtain ⟨w1, hW1⟩ : ∃ W, W = w0.setCell ⟨w.heap.size, 1, none⟩ (.int .i64 x) := ⟨_, rfl⟩
    rw [← hW1]
    have K1 : Kept (· = w.heap.size) w0 w1 := by rw [hW1]; exact Kept.set (S := (· = w.heap.size)) (p := ⟨w.heap.size, 1, none⟩) (Kept.refl _ _) rfl _
    have hw1 : Below w.heap.size w w1 := by rw [hW1]; exact hw.setCell (p := ⟨w.heap.size, 1, none⟩) (Nat.le_refl _) _
    have D1 : RowAt w1 w.heap.size 0 [.int .i64 6, .int .i64 x, .string vs] := by
      rw [hW1]
      exact RowAt.of3 ((cell_setCell_ne _ _ 1 0 _ (by omega)).trans d_0) (cell_setCell_eq _ _ 1 _ d_1) ((cell_setCell_ne _ _ 1 2 _ (by omega)).trans d_2)
    have E1 := E.kept K1 (by omega); have EW1 := EW.kept K1 (by omega)
    clear hW1 K1 d_0 d_1 d_2 df_0 df_1 df_2 e_0 e_1 e_2 ef_0 ef_1 ef_2
    obtain ⟨d_0, d_1, d_2⟩ := D1.box3
    obtain ⟨e_0, e_1, e_2⟩ := E1.box3
    have ef_0 := EW1.frz 0 (by omega); have ef_1 := EW1.frz 1 (by omega); have ef_2 := EW1.frz 2 (by omega)
    go_wp2_with fail
    have q := stored3 (x := .int .i64 6) (y := .int .i64 x) (z := .string vs) e_0 e_1 e_2
    refine bodyPost_ret (v := .agg #[.int .i64 6, .int .i64 x, .string vs]) (by simp [results, Try.results80, go_sem, q.1, q.2.1, q.2.2]) rfl ?_
    exact ⟨rfl, below_set3 hw1 (by omega) _ _ _⟩
  · have hm : movedP at_ ⟨vk, vn, vs⟩ = ⟨vk, vn, vs⟩ := by unfold movedP; rw [if_neg h6]
    rw [hm]
    have hd : (vk == 6) = false := by simpa using h6
    replace hm := Lib.hid hm; replace hv := Lib.hid hv; replace h0 := Lib.hid h0; replace hn := Lib.hid hn
    go_enter Try.func80, Try.ntmps80
    go_upto_region 1 with fail
    have D : RowAt (w.alloc (.cells #[.int .i64 vk, .int .i64 vn, .string vs] 28)) (w.heap.size) 0 [.int .i64 vk, .int .i64 vn, .string vs] := RowAt.box w #[.int .i64 vk, .int .i64 vn, .string vs] 28
    have DW : Wr (w.alloc (.cells #[.int .i64 vk, .int .i64 vn, .string vs] 28)) (w.heap.size) 0 3 := Wr.box w #[.int .i64 vk, .int .i64 vn, .string vs] 28
    have D := D.below (show Below (w.alloc (.cells #[.int .i64 vk, .int .i64 vn, .string vs] 28)).heap.size (w.alloc (.cells #[.int .i64 vk, .int .i64 vn, .string vs] 28)) ((w.alloc (.cells #[.int .i64 vk, .int .i64 vn, .string vs] 28)).alloc (.cells #[.int .i64 0, .int .i64 0, .string ⟨#[]⟩] 28)) by go_grown)
    have DW := DW.below (show Below (w.alloc (.cells #[.int .i64 vk, .int .i64 vn, .string vs] 28)).heap.size (w.alloc (.cells #[.int .i64 vk, .int .i64 vn, .string vs] 28)) ((w.alloc (.cells #[.int .i64 vk, .int .i64 vn, .string vs] 28)).alloc (.cells #[.int .i64 0, .int .i64 0, .string ⟨#[]⟩] 28)) by go_grown)
    have E : RowAt ((w.alloc (.cells #[.int .i64 vk, .int .i64 vn, .string vs] 28)).alloc (.cells #[.int .i64 0, .int .i64 0, .string ⟨#[]⟩] 28)) (w.heap.size + 1) 0 [.int .i64 0, .int .i64 0, .string ⟨#[]⟩] := by have h := RowAt.box (w.alloc (.cells #[.int .i64 vk, .int .i64 vn, .string vs] 28)) #[.int .i64 0, .int .i64 0, .string ⟨#[]⟩] 28; simp only [World.size_alloc] at h; exact h
    have EW : Wr ((w.alloc (.cells #[.int .i64 vk, .int .i64 vn, .string vs] 28)).alloc (.cells #[.int .i64 0, .int .i64 0, .string ⟨#[]⟩] 28)) (w.heap.size + 1) 0 3 := by have h := Wr.box (w.alloc (.cells #[.int .i64 vk, .int .i64 vn, .string vs] 28)) #[.int .i64 0, .int .i64 0, .string ⟨#[]⟩] 28; simp only [World.size_alloc] at h; exact h
    have hw : Below w.heap.size w ((w.alloc (.cells #[.int .i64 vk, .int .i64 vn, .string vs] 28)).alloc (.cells #[.int .i64 0, .int .i64 0, .string ⟨#[]⟩] 28)) := by go_grown
    generalize ((w.alloc (.cells #[.int .i64 vk, .int .i64 vn, .string vs] 28)).alloc (.cells #[.int .i64 0, .int .i64 0, .string ⟨#[]⟩] 28)) = w0 at *
    have df_0 := DW.frz 0 (by omega); have df_1 := DW.frz 1 (by omega); have df_2 := DW.frz 2 (by omega); obtain ⟨d_0, d_1, d_2⟩ := D.box3; have hsD := World.block_lt_of_cell? _ _ d_0; dsimp only at hsD; have ef_0 := EW.frz 0 (by omega); have ef_1 := EW.frz 1 (by omega); have ef_2 := EW.frz 2 (by omega); obtain ⟨e_0, e_1, e_2⟩ := E.box3; have hsE := World.block_lt_of_cell? _ _ e_0; dsimp only at hsE
    go_wp2_with fail
    have q := stored3 (x := .int .i64 vk) (y := .int .i64 vn) (z := .string vs) e_0 e_1 e_2
    refine bodyPost_ret (v := .agg #[.int .i64 vk, .int .i64 vn, .string vs]) (by simp [results, Try.results80, go_sem, q.1, q.2.1, q.2.2]) rfl ?_
    exact ⟨rfl, below_set3 hw (by omega) _ _ _⟩

end Go.Proofs.Ytajbgkpjmgmdhaa
