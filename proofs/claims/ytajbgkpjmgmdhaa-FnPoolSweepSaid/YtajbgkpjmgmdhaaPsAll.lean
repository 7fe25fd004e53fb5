import Derived.Test.YtajbgkpjmgmdhaaPack
import Derived.Test.YtajbgkpjmgmdhaaPoolBox
import Derived.Test.YtajbgkpjmgmdhaaPoolMk
import Derived.Test.YtajbgkpjmgmdhaaPoolOk2
/- impl.moved, and the program's packing. -/
namespace Go.Proofs.Ytajbgkpjmgmdhaa
open Go.RowKit
set_option linter.unusedVariables false
set_option linter.unusedSimpArgs false
attribute [local go_sem] Ext.cell

theorem RowAt.of3 {W : World} {b : Nat} {u v t : Value} (h0 : W.cell? ⟨b, 0, none⟩ = some u) (h1 : W.cell? ⟨b, 1, none⟩ = some v) (h2 : W.cell? ⟨b, 2, none⟩ = some t) : RowAt W b 0 [u, v, t] := fun j c hc => by
  rcases j with _ | _ | _ | j
  · obtain rfl : u = c := by simpa using hc
    exact h0
  · obtain rfl : v = c := by simpa using hc
    exact h1
  · obtain rfl : t = c := by simpa using hc
    exact h2
  · simp at hc
theorem stored3 {W : World} {b : Nat} {x y z : Value} {u v t : Value} (h0 : W.cell? ⟨b, 0, none⟩ = some u) (h1 : W.cell? ⟨b, 1, none⟩ = some v) (h2 : W.cell? ⟨b, 2, none⟩ = some t) :
    (W.setCell ⟨b, 0, none⟩ x).cell? ⟨b, 0, none⟩ = some x ∧ ((W.setCell ⟨b, 0, none⟩ x).setCell ⟨b, 1, none⟩ y).cell? ⟨b, 1, none⟩ = some y ∧ (((W.setCell ⟨b, 0, none⟩ x).setCell ⟨b, 1, none⟩ y).setCell ⟨b, 2, none⟩ z).cell? ⟨b, 2, none⟩ = some z :=
  ⟨cell_setCell_eq W b 0 x h0, cell_setCell_eq _ b 1 y ((cell_setCell_ne W b 0 1 x (by omega)).trans h1), cell_setCell_eq _ b 2 z ((cell_setCell_ne _ b 1 2 y (by omega)).trans ((cell_setCell_ne W b 0 2 x (by omega)).trans h2))⟩
theorem below_set3 {B b : Nat} {w W : World} (hb : Below B w W) (h : B ≤ b) (x y z : Value) : Below B w (((W.setCell ⟨b, 0, none⟩ x).setCell ⟨b, 1, none⟩ y).setCell ⟨b, 2, none⟩ z) :=
  ((hb.setCell (p := ⟨b, 0, none⟩) h x).setCell (p := ⟨b, 1, none⟩) h y).setCell (p := ⟨b, 2, none⟩) h z
set_option maxRecDepth 100000 in
set_option maxHeartbeats 4000000 in
theorem moved_c (v : GVal) (at_ : List Int) (u : Value) (lo : Nat) (hv : IsCell at_.length v) (w : World) (hu : Sl IntR 1 lo w u at_) :
    Calls Try.prog 80 #[.agg #[.int .i64 v.kind, .int .i64 v.n, .string v.s], u] w fun e w' => e = .returned (.agg #[.int .i64 (movedP at_ v).kind, .int .i64 (movedP at_ v).n, .string (movedP at_ v).s]) ∧ Below w.heap.size w w' := by
  obtain ⟨ua, uc, rfl, ul, um, h0⟩ := hu
  obtain ⟨vk, vn, vs⟩ := v
  dsimp only at *
  obtain ⟨n, hn⟩ : ∃ n, n = at_.length := ⟨_, rfl⟩
  rw [← hn] at ul hv ⊢
  by_cases h6 : vk = 6
  · subst h6
    obtain ⟨k, rfl, hkn⟩ := hv rfl
    obtain ⟨b1, o1, x, s1, _, rfl, P1, ⟨rfl, hx64⟩, r1⟩ := h0.get hn hkn
    rw [Nat.mul_one] at r1
    have hm : movedP at_ ⟨6, (k : Int), vs⟩ = ⟨6, x, vs⟩ := by unfold movedP; rw [if_pos rfl, Int.toNat_natCast, List.getD_eq_getElem?_getD, P1]; rfl
    rw [hm]
    replace hm := Lib.hid hm; replace P1 := Lib.hid P1; replace hv := Lib.hid hv; replace h0 := Lib.hid h0; replace hn := Lib.hid hn
    clear hx64
    go_enter Try.func80, Try.ntmps80
    go_upto_region 1 with fail
    have D : RowAt (w.alloc (.cells #[.int .i64 6, .int .i64 (k : Int), .string vs] 28)) (w.heap.size) 0 [.int .i64 6, .int .i64 (k : Int), .string vs] := RowAt.box w #[.int .i64 6, .int .i64 (k : Int), .string vs] 28
    have DW : Wr (w.alloc (.cells #[.int .i64 6, .int .i64 (k : Int), .string vs] 28)) (w.heap.size) 0 3 := Wr.box w #[.int .i64 6, .int .i64 (k : Int), .string vs] 28
    have D := D.below (show Below (w.alloc (.cells #[.int .i64 6, .int .i64 (k : Int), .string vs] 28)).heap.size (w.alloc (.cells #[.int .i64 6, .int .i64 (k : Int), .string vs] 28)) ((w.alloc (.cells #[.int .i64 6, .int .i64 (k : Int), .string vs] 28)).alloc (.cells #[.int .i64 0, .int .i64 0, .string ⟨#[]⟩] 28)) by go_grown)
    have DW := DW.below (show Below (w.alloc (.cells #[.int .i64 6, .int .i64 (k : Int), .string vs] 28)).heap.size (w.alloc (.cells #[.int .i64 6, .int .i64 (k : Int), .string vs] 28)) ((w.alloc (.cells #[.int .i64 6, .int .i64 (k : Int), .string vs] 28)).alloc (.cells #[.int .i64 0, .int .i64 0, .string ⟨#[]⟩] 28)) by go_grown)
    have E : RowAt ((w.alloc (.cells #[.int .i64 6, .int .i64 (k : Int), .string vs] 28)).alloc (.cells #[.int .i64 0, .int .i64 0, .string ⟨#[]⟩] 28)) (w.heap.size + 1) 0 [.int .i64 0, .int .i64 0, .string ⟨#[]⟩] := by have h := RowAt.box (w.alloc (.cells #[.int .i64 6, .int .i64 (k : Int), .string vs] 28)) #[.int .i64 0, .int .i64 0, .string ⟨#[]⟩] 28; simp only [World.size_alloc] at h; exact h
    have EW : Wr ((w.alloc (.cells #[.int .i64 6, .int .i64 (k : Int), .string vs] 28)).alloc (.cells #[.int .i64 0, .int .i64 0, .string ⟨#[]⟩] 28)) (w.heap.size + 1) 0 3 := by have h := Wr.box (w.alloc (.cells #[.int .i64 6, .int .i64 (k : Int), .string vs] 28)) #[.int .i64 0, .int .i64 0, .string ⟨#[]⟩] 28; simp only [World.size_alloc] at h; exact h
    have hw : Below w.heap.size w ((w.alloc (.cells #[.int .i64 6, .int .i64 (k : Int), .string vs] 28)).alloc (.cells #[.int .i64 0, .int .i64 0, .string ⟨#[]⟩] 28)) := by go_grown
    generalize ((w.alloc (.cells #[.int .i64 6, .int .i64 (k : Int), .string vs] 28)).alloc (.cells #[.int .i64 0, .int .i64 0, .string ⟨#[]⟩] 28)) = w0 at *
    have R1 := (r1.below hw).cells1
    have hb1 := World.block_lt_of_cell? _ _ (r1.cells1); dsimp only at hb1
    have df_0 := DW.frz 0 (by omega); have df_1 := DW.frz 1 (by omega); have df_2 := DW.frz 2 (by omega); obtain ⟨d_0, d_1, d_2⟩ := D.box3; have hsD := World.block_lt_of_cell? _ _ d_0; dsimp only at hsD; have ef_0 := EW.frz 0 (by omega); have ef_1 := EW.frz 1 (by omega); have ef_2 := EW.frz 2 (by omega); obtain ⟨e_0, e_1, e_2⟩ := E.box3; have hsE := World.block_lt_of_cell? _ _ e_0; dsimp only at hsE
    go_upto_region 3 with fail
    obtain ⟨w1, hW1⟩ : ∃ W, W = w0.setCell ⟨w.heap.size, 1, none⟩ (.int .i64 x) := ⟨_, rfl⟩
    rw [← hW1]
    have K1 : Kept (· = w.heap.size) w0 w1 := by rw [hW1]; exact Kept.set (S := (· = w.heap.size)) (p := ⟨w.heap.size, 1, none⟩) (Kept.refl _ _) rfl _
    have hw1 : Below w.heap.size w w1 := by rw [hW1]; exact hw.setCell (p := ⟨w.heap.size, 1, none⟩) (Nat.le_refl _) _
    have D1 : RowAt w1 w.heap.size 0 [.int .i64 6, .int .i64 x, .string vs] := by
      rw [hW1]
      exact RowAt.of3 ((cell_setCell_ne _ _ 1 0 _ (by omega)).trans d_0) (cell_setCell_eq _ _ 1 _ d_1) ((cell_setCell_ne _ _ 1 2 _ (by omega)).trans d_2)
    have E1 := E.kept K1 (by omega); have EW1 := EW.kept K1 (by omega)
    clear hW1 K1 d_0 d_1 d_2 df_0 df_1 df_2 e_0 e_1 e_2 ef_0 ef_1 ef_2
    obtain ⟨d_0, d_1, d_2⟩ := D1.box3
    obtain ⟨e_0, e_1, e_2⟩ := E1.box3
    have ef_0 := EW1.frz 0 (by omega); have ef_1 := EW1.frz 1 (by omega); have ef_2 := EW1.frz 2 (by omega)
    go_wp2_with fail
    have q := stored3 (x := .int .i64 6) (y := .int .i64 x) (z := .string vs) e_0 e_1 e_2
    refine bodyPost_ret (v := .agg #[.int .i64 6, .int .i64 x, .string vs]) (by simp [results, Try.results80, go_sem, q.1, q.2.1, q.2.2]) rfl ?_
    exact ⟨rfl, below_set3 hw1 (by omega) _ _ _⟩
  · have hm : movedP at_ ⟨vk, vn, vs⟩ = ⟨vk, vn, vs⟩ := by unfold movedP; rw [if_neg h6]
    rw [hm]
    have hd : (vk == 6) = false := by simpa using h6
    replace hm := Lib.hid hm; replace hv := Lib.hid hv; replace h0 := Lib.hid h0; replace hn := Lib.hid hn
    go_enter Try.func80, Try.ntmps80
    go_upto_region 1 with fail
    have D : RowAt (w.alloc (.cells #[.int .i64 vk, .int .i64 vn, .string vs] 28)) (w.heap.size) 0 [.int .i64 vk, .int .i64 vn, .string vs] := RowAt.box w #[.int .i64 vk, .int .i64 vn, .string vs] 28
    have DW : Wr (w.alloc (.cells #[.int .i64 vk, .int .i64 vn, .string vs] 28)) (w.heap.size) 0 3 := Wr.box w #[.int .i64 vk, .int .i64 vn, .string vs] 28
    have D := D.below (show Below (w.alloc (.cells #[.int .i64 vk, .int .i64 vn, .string vs] 28)).heap.size (w.alloc (.cells #[.int .i64 vk, .int .i64 vn, .string vs] 28)) ((w.alloc (.cells #[.int .i64 vk, .int .i64 vn, .string vs] 28)).alloc (.cells #[.int .i64 0, .int .i64 0, .string ⟨#[]⟩] 28)) by go_grown)
    have DW := DW.below (show Below (w.alloc (.cells #[.int .i64 vk, .int .i64 vn, .string vs] 28)).heap.size (w.alloc (.cells #[.int .i64 vk, .int .i64 vn, .string vs] 28)) ((w.alloc (.cells #[.int .i64 vk, .int .i64 vn, .string vs] 28)).alloc (.cells #[.int .i64 0, .int .i64 0, .string ⟨#[]⟩] 28)) by go_grown)
    have E : RowAt ((w.alloc (.cells #[.int .i64 vk, .int .i64 vn, .string vs] 28)).alloc (.cells #[.int .i64 0, .int .i64 0, .string ⟨#[]⟩] 28)) (w.heap.size + 1) 0 [.int .i64 0, .int .i64 0, .string ⟨#[]⟩] := by have h := RowAt.box (w.alloc (.cells #[.int .i64 vk, .int .i64 vn, .string vs] 28)) #[.int .i64 0, .int .i64 0, .string ⟨#[]⟩] 28; simp only [World.size_alloc] at h; exact h
    have EW : Wr ((w.alloc (.cells #[.int .i64 vk, .int .i64 vn, .string vs] 28)).alloc (.cells #[.int .i64 0, .int .i64 0, .string ⟨#[]⟩] 28)) (w.heap.size + 1) 0 3 := by have h := Wr.box (w.alloc (.cells #[.int .i64 vk, .int .i64 vn, .string vs] 28)) #[.int .i64 0, .int .i64 0, .string ⟨#[]⟩] 28; simp only [World.size_alloc] at h; exact h
    have hw : Below w.heap.size w ((w.alloc (.cells #[.int .i64 vk, .int .i64 vn, .string vs] 28)).alloc (.cells #[.int .i64 0, .int .i64 0, .string ⟨#[]⟩] 28)) := by go_grown
    generalize ((w.alloc (.cells #[.int .i64 vk, .int .i64 vn, .string vs] 28)).alloc (.cells #[.int .i64 0, .int .i64 0, .string ⟨#[]⟩] 28)) = w0 at *
    have df_0 := DW.frz 0 (by omega); have df_1 := DW.frz 1 (by omega); have df_2 := DW.frz 2 (by omega); obtain ⟨d_0, d_1, d_2⟩ := D.box3; have hsD := World.block_lt_of_cell? _ _ d_0; dsimp only at hsD; have ef_0 := EW.frz 0 (by omega); have ef_1 := EW.frz 1 (by omega); have ef_2 := EW.frz 2 (by omega); obtain ⟨e_0, e_1, e_2⟩ := E.box3; have hsE := World.block_lt_of_cell? _ _ e_0; dsimp only at hsE
    go_wp2_with fail
    have q := stored3 (x := .int .i64 vk) (y := .int .i64 vn) (z := .string vs) e_0 e_1 e_2
    refine bodyPost_ret (v := .agg #[.int .i64 vk, .int .i64 vn, .string vs]) (by simp [results, Try.results80, go_sem, q.1, q.2.1, q.2.2]) rfl ?_
    exact ⟨rfl, below_set3 hw (by omega) _ _ _⟩

end Go.Proofs.Ytajbgkpjmgmdhaa

/- impl.packed: the walk. -/
namespace Go.Proofs.Ytajbgkpjmgmdhaa
open Go.RowKit
set_option linter.unusedVariables false
set_option linter.unusedSimpArgs false
attribute [local go_sem] Ext.cell

theorem movedP_wf {at_ : List Int} (h : ∀ x ∈ at_, I64 x) {v : GVal} (hv : v.wf) : (movedP at_ v).wf := by
  unfold movedP
  split
  · refine ⟨by constructor <;> simp, ?_, hv.2.2⟩
    rw [List.getD_eq_getElem?_getD]
    cases e : at_[v.n.toNat]? with
    | none => constructor <;> simp
    | some x => exact h x (List.mem_of_getElem? e)
  · exact hv
theorem cellMoved_wf {at_ : List Int} (h : ∀ x ∈ at_, I64 x) {c : GCell} (hc : c.wf) : (cellMoved at_ c).wf := by
  obtain ⟨h1, h2, h3, h4, h5, h6, h7, h8, h9⟩ := hc
  have ha := movedP_wf h (v := c.a) ⟨h4, h5, h6⟩
  have hb := movedP_wf h (v := c.b) ⟨h7, h8, h9⟩
  exact ⟨h1, h2, h3, ha.1, ha.2.1, ha.2.2, hb.1, hb.2.1, hb.2.2⟩
theorem RowAt.setAt {w : World} {b j : Nat} {r : List Value} (h : RowAt w b 0 r) (hj : j < r.length) (u : Value) : RowAt (w.setCell ⟨b, j, none⟩ u) b 0 (r.set j u) := fun i c hc => by
  have h' := h
  rw [Nat.zero_add]
  by_cases e : j = i
  · subst e
    rw [List.getElem?_set_self hj] at hc
    obtain rfl := Option.some.inj hc
    have := h j _ (List.getElem?_eq_getElem hj)
    rw [Nat.zero_add] at this
    exact cell_setCell_eq w b j _ this
  · rw [List.getElem?_set_ne e] at hc
    have := h i c hc
    rw [Nat.zero_add] at this
    exact (cell_setCell_ne w b j i _ e).trans this
/-- A value behind the first k of a list's map. -/
theorem take_map_snoc {α β : Type} {f : α → β} {l : List α} {k : Nat} {x : α} (h : l[k]? = some x) : (l.map f).take (k + 1) = (l.map f).take k ++ [f x] := take_snoc' (by rw [List.getElem?_map, h]; rfl)

theorem row_two {w : World} {b : Nat} {a0 a1 a2 a3 a4 a5 a6 a7 a8 : Value} (D : RowAt w b 0 [a0, a1, a2, a3, a4, a5, a6, a7, a8]) (u3 u4 u5 u6 u7 u8 : Value) :
    RowAt ((((((w.setCell ⟨b, 3, none⟩ u3).setCell ⟨b, 4, none⟩ u4).setCell ⟨b, 5, none⟩ u5).setCell ⟨b, 6, none⟩ u6).setCell ⟨b, 7, none⟩ u7).setCell ⟨b, 8, none⟩ u8) b 0 [a0, a1, a2, u3, u4, u5, u6, u7, u8] :=
  (((((D.setAt (j := 3) (by simp) u3).setAt (j := 4) (by simp) u4).setAt (j := 5) (by simp) u5).setAt (j := 6) (by simp) u6).setAt (j := 7) (by simp) u7).setAt (j := 8) (by simp) u8
theorem below_two {w0 w : World} {lo b : Nat} (h : Below lo w0 w) (hb : lo ≤ b) (u3 u4 u5 u6 u7 u8 : Value) :
    Below lo w0 ((((((w.setCell ⟨b, 3, none⟩ u3).setCell ⟨b, 4, none⟩ u4).setCell ⟨b, 5, none⟩ u5).setCell ⟨b, 6, none⟩ u6).setCell ⟨b, 7, none⟩ u7).setCell ⟨b, 8, none⟩ u8) :=
  (((((h.setCell (p := ⟨b, 3, none⟩) hb u3).setCell (p := ⟨b, 4, none⟩) hb u4).setCell (p := ⟨b, 5, none⟩) hb u5).setCell (p := ⟨b, 6, none⟩) hb u6).setCell (p := ⟨b, 7, none⟩) hb u7).setCell (p := ⟨b, 8, none⟩) hb u8
theorem kept_two {w : World} {b : Nat} (u3 u4 u5 u6 u7 u8 : Value) :
    Kept (· = b) w ((((((w.setCell ⟨b, 3, none⟩ u3).setCell ⟨b, 4, none⟩ u4).setCell ⟨b, 5, none⟩ u5).setCell ⟨b, 6, none⟩ u6).setCell ⟨b, 7, none⟩ u7).setCell ⟨b, 8, none⟩ u8) :=
  Kept.set (S := (· = b)) (p := ⟨b, 8, none⟩) (Kept.set (S := (· = b)) (p := ⟨b, 7, none⟩) (Kept.set (S := (· = b)) (p := ⟨b, 6, none⟩) (Kept.set (S := (· = b)) (p := ⟨b, 5, none⟩) (Kept.set (S := (· = b)) (p := ⟨b, 4, none⟩) (Kept.set (S := (· = b)) (p := ⟨b, 3, none⟩) (Kept.refl _ _) rfl _) rfl _) rfl _) rfl _) rfl _) rfl _

def PkPost (w : World) (h : List GCell) (roots : List GVal) (e : Ending) (w' : World) : Prop :=
  ∃ v0 v1, e = .returned (.tuple #[v0, v1]) ∧ OwnCells w.heap.size w' v0 (packedC h roots) ∧ OwnVals w.heap.size w' v1 (packedV h roots) ∧ (∀ g, v0.ownBlock = some g → v1.ownBlock ≠ some g) ∧ Below w.heap.size w w'
set_option maxRecDepth 100000 in
set_option maxHeartbeats 8000000 in
theorem packed_c (h : List GCell) (roots : List GVal) (u0 u1 : Value) (lo0 lo1 : Nat) (H : HeapIn h roots) (hh : h.length ≤ 1048576) (hr : roots.length ≤ 1048576) (w : World) (hx0 : Sl GCell.R 9 lo0 w u0 h) (hx1 : Sl GVal.R 3 lo1 w u1 roots) :
    Calls Try.prog 62 #[u0, u1] w (PkPost w h roots) := by
  have c1 := fun W (hW : Below w.heap.size w W) => copied_c h roots _ _ lo0 lo1 H hh hr W (hx0.below GCell.good hW) (hx1.below GVal.good hW)
  obtain ⟨a0, c0, rfl, l0, m0, h0⟩ := hx0
  obtain ⟨a1, cc1, rfl, l1, m1, h1⟩ := hx1
  have hwf0 : ∀ c ∈ h, c.wf := flatCell.wfs (h0.sl rfl l0 m0)
  have hwf1 : ∀ c ∈ roots, c.wf := flatVal.wfs (h1.sl rfl l1 m1)
  obtain ⟨n, hn⟩ : ∃ n, n = h.length := ⟨_, rfl⟩
  obtain ⟨m, hm⟩ : ∃ n, n = roots.length := ⟨_, rfl⟩
  rw [← hn] at l0 hh c1 ⊢
  rw [← hm] at l1 hr c1 ⊢
  obtain ⟨i0, hi0, hz0, hz1, hz2⟩ := info_parts info_CellS
  have I := Lib.hid hi0; have I0 := Lib.hid hz0; have I1 := Lib.hid hz1; have I2 := Lib.hid hz2
  clear hi0 hz0 hz1 hz2
  obtain ⟨j0, hi0, hz0, hz1, hz2⟩ := info_parts info_ValS
  have J := Lib.hid hi0; have J0 := Lib.hid hz0; have J1 := Lib.hid hz1; have J2 := Lib.hid hz2
  clear hi0 hz0 hz1 hz2
  replace hn := Lib.hid hn; replace hm := Lib.hid hm; replace h0 := Lib.hid h0; replace h1 := Lib.hid h1; replace H := Lib.hid H; replace c1 := Lib.hid c1
  replace hwf0 := Lib.hid hwf0; replace hwf1 := Lib.hid hwf1
  go_enter Try.func62, Try.ntmps62
  go_upto_region 2 with (go_at_call 58; (with_reducible refine (c1.out _ (Below.refl _ _)).mono ?_); rintro en w1 ⟨v0, v1, rfl, OO, OA, BL, hb⟩)
  have hPC : packedC h roots = (copiedP h roots).1.map fun x => cellMoved (copiedP h roots).2 (h.getD x.toNat zeroG) := rfl
  have hPV : packedV h roots = roots.map (movedP (copiedP h roots).2) := rfl
  have hlA := BL.inv.len
  have hord := BL.inv.ord
  have hle := BL.inv.le
  have hkeep : Hid (BLoop h roots (copiedP h roots).1.length (copiedP h roots)) := BL
  generalize (copiedP h roots).1 = ord at *
  generalize (copiedP h roots).2 = at_ at *
  have SO := OO.sl flatInt; have SA := OA.sl flatInt
  have hA64 : Hid (∀ x ∈ at_, I64 x) := OA.2
  obtain ⟨oa, oc, rfl, ol, om, hO⟩ := SO
  obtain ⟨ra, rc, rfl⟩ := SA.form
  obtain ⟨q, hq⟩ : ∃ q, q = ord.length := ⟨_, rfl⟩
  rw [← hn.out] at hle
  rw [← hq] at ol hle ⊢
  rw [hlA, ← hn.out] at SA ⊢
  replace hq := Lib.hid hq; replace hO := Lib.hid hO; replace SA := Lib.hid SA; replace hord := Lib.hid hord; replace hPC := Lib.hid hPC; replace hPV := Lib.hid hPV; replace hlA := Lib.hid hlA
  clear BL OO OA c1
  have hsz := hb.size
  obtain ⟨w2, hW2⟩ : ∃ W, W = w1.alloc (.cells #[] 30) := ⟨_, rfl⟩
  have OC : OwnCells w1.heap.size w2 (.slice (some ⟨w1.heap.size, 0, none⟩) 0 0) [] := ⟨by
    have h1 := own_new w1 #[] 30 9 0 rfl (by unfold maxLen; omega) w1.heap.size (Nat.le_refl _)
    rw [hW2]; simpa [rowsOf] using h1, fun x hx => by cases hx⟩
  have hb2 : Below w1.heap.size w1 w2 := by rw [hW2]; go_grown
  go_upto_region 3 with fail
  rw [← hW2]
  clear hW2
  replace OC := Lib.hid OC
  go_wp2_with fail
  go_loopw [24, 8] (fun ii cv wr => ∃ (k : Nat) (v : Value), k ≤ q ∧ ii = .int .i64 k ∧ cv = v ∧ Below w1.heap.size w1 wr ∧ OwnCells w1.heap.size wr v ((packedC h roots).take k)) (fun ii _ _ => q - (intOf ii).toNat)
  case atStart => exact ⟨0, _, by omega, rfl, rfl, hb2, OC.out⟩
  case round =>
    clear hb2 OC
    obtain ⟨k, v, hk, rfl, rfl, hwr, OC⟩ := hrel
    have hsr := hwr.size
    have hlC : (packedC h roots).length = q := by rw [hPC.out, List.length_map]; exact hq.out.symm
    by_cases hlt : k < q
    · obtain ⟨b2, o2, x, s2, _, rfl, P2, ⟨rfl, hx64⟩, r2⟩ := (hO.out.below IntR.good hwr).get hq hlt
      rw [Nat.mul_one] at r2
      have R2 := r2.cells1
      obtain ⟨j, rfl, hjn, hRj⟩ := hord.out x (List.mem_of_getElem? P2.out)
      rw [← hn.out] at hjn
      obtain ⟨b1, o1, c, s1, _, rfl, P1, ⟨rfl, hwf⟩, r1⟩ := h0.out.get hn hjn
      have hcm := List.mem_of_getElem? P1.out
      have hcc := H.out.cells c hcm
      rw [← hlA.out] at hcc
      have hst : (packedC h roots).take (k + 1) = (packedC h roots).take k ++ [cellMoved at_ c] := by
        rw [hPC.out, take_map_snoc P2.out]
        congr 2
        rw [Int.toNat_natCast, List.getD_eq_getElem?_getD, P1.out]; rfl
      obtain ⟨R0, Ra1, Ra2, Ra3, Ra4, Ra5, Ra6, Ra7, Ra8⟩ := (r1.below (hb.trans (hwr.mono hsz))).cells9
      have hlO : ((packedC h roots).take k).length = k := by rw [List.length_take]; omega
      obtain ⟨va, vc, rfl⟩ := OC.form
      rw [hlO] at OC
      replace OC := Lib.hid OC
      replace hst := Lib.hid hst; replace hlC := Lib.hid hlC; replace hlO := Lib.hid hlO; replace hwf := Lib.hid hwf
      clear r1 hx64
      go_upto_region 7 with fail
      obtain ⟨w3, hW3⟩ : ∃ W, W = wr.alloc (.cells #[.int .i64 c.kind, .int .i64 c.n, .string c.s, .int .i64 c.a.kind, .int .i64 c.a.n, .string c.a.s, .int .i64 c.b.kind, .int .i64 c.b.n, .string c.b.s] 30) := ⟨_, rfl⟩
      rw [hlO.out, ← hW3]
      have hb3 : Below wr.heap.size wr w3 := by rw [hW3]; go_grown
      have D : RowAt w3 wr.heap.size 0 [.int .i64 c.kind, .int .i64 c.n, .string c.s, .int .i64 c.a.kind, .int .i64 c.a.n, .string c.a.s, .int .i64 c.b.kind, .int .i64 c.b.n, .string c.b.s] := by rw [hW3]; exact RowAt.box wr #[_, _, _, _, _, _, _, _, _] _
      have DW : Wr w3 wr.heap.size 0 9 := by rw [hW3]; exact Wr.box wr #[_, _, _, _, _, _, _, _, _] _
      clear hW3 R0 Ra1 Ra2 Ra3 Ra4 Ra5 Ra6 Ra7 Ra8 R2
      generalize hbD : wr.heap.size = bD at *
      have hs3 : bD < w3.heap.size := World.block_lt_of_cell? _ _ D.box9.1
      have hw13 : Below w1.heap.size w1 w3 := hwr.trans (hb3.mono hsr)
      have cA := fun W (hW : Below w3.heap.size w3 W) => moved_c c.a at_ _ _ hcc.1 W ((SA.out.below IntR.good hw13).below IntR.good hW)
      have cB := fun W (hW : Below w3.heap.size w3 W) => moved_c c.b at_ _ _ hcc.2 W ((SA.out.below IntR.good hw13).below IntR.good hW)
      replace cA := Lib.hid cA; replace cB := Lib.hid cB; replace hcc := Lib.hid hcc
      obtain ⟨d_0, d_1, d_2, d_3, d_4, d_5, d_6, d_7, d_8⟩ := D.box9
      go_region_law (go_simp; go_at_call 80; (first
        | ((with_reducible refine (cA.out _ (by go_grown)).mono ?_); rintro e w4 ⟨rfl, hbk⟩; have hb4 : Below w3.heap.size w3 w4 := Below.trans (by go_grown) (hbk.mono (by first | exact Nat.le_refl _ | simp)); have D4 := D.below hb4; obtain ⟨e_0, e_1, e_2, e_3, e_4, e_5, e_6, e_7, e_8⟩ := D4.box9)
        | ((with_reducible refine (cB.out _ (hb4.trans (by go_grown))).mono ?_); rintro e w5 ⟨rfl, hbk⟩; have hb5 : Below w3.heap.size w3 w5 := (hb4.trans (by go_grown)).trans (hbk.mono (by first | exact Nat.le_refl _ | exact hb4.size | (have := hb4.size; simp only [World.size_drew]; omega))); have D5 := D.below hb5; have DW5 := DW.below hb5; obtain ⟨g_0, g_1, g_2, g_3, g_4, g_5, g_6, g_7, g_8⟩ := D5.box9; have f_3 := DW5.frz 3 (by omega); have f_4 := DW5.frz 4 (by omega); have f_5 := DW5.frz 5 (by omega); have f_6 := DW5.frz 6 (by omega); have f_7 := DW5.frz 7 (by omega); have f_8 := DW5.frz 8 (by omega))))
      all_goals
        obtain ⟨w6, hW6⟩ : ∃ W, W = (((((w5.setCell ⟨bD, 3, none⟩ (.int .i64 (movedP at_ c.a).kind)).setCell ⟨bD, 4, none⟩ (.int .i64 (movedP at_ c.a).n)).setCell ⟨bD, 5, none⟩ (.string (movedP at_ c.a).s)).setCell ⟨bD, 6, none⟩ (.int .i64 (movedP at_ c.b).kind)).setCell ⟨bD, 7, none⟩ (.int .i64 (movedP at_ c.b).n)).setCell ⟨bD, 8, none⟩ (.string (movedP at_ c.b).s) := ⟨_, rfl⟩
        rw [← hW6]
        have D6 : RowAt w6 bD 0 [.int .i64 c.kind, .int .i64 c.n, .string c.s, .int .i64 (movedP at_ c.a).kind, .int .i64 (movedP at_ c.a).n, .string (movedP at_ c.a).s, .int .i64 (movedP at_ c.b).kind, .int .i64 (movedP at_ c.b).n, .string (movedP at_ c.b).s] := by rw [hW6]; exact row_two D5 _ _ _ _ _ _
        have hs5 := hb5.size
        have hb6 : Below bD wr w6 := by rw [hW6]; exact below_two (hb3.trans (hb5.mono (by omega))) (Nat.le_refl _) _ _ _ _ _ _
        clear hW6 D4 D5 D DW DW5 d_0 d_1 d_2 d_3 d_4 d_5 d_6 d_7 d_8 e_0 e_1 e_2 e_3 e_4 e_5 e_6 e_7 e_8 g_0 g_1 g_2 g_3 g_4 g_5 g_6 g_7 g_8 f_3 f_4 f_5 f_6 f_7 f_8 hb4 hb5 hs5 hbk cA cB
        obtain ⟨d_0, d_1, d_2, d_3, d_4, d_5, d_6, d_7, d_8⟩ := D6.box9
        have OC6 : Hid (OwnCells w1.heap.size w6 (.slice va k vc) ((packedC h roots).take k)) := OC.out.below (hbD.symm ▸ hb6)
        have hw16 : Below w1.heap.size w1 w6 := hwr.trans (hb6.mono hsr)
        have hs16 := hw16.size
        have hwfm := Lib.hid (cellMoved_wf hA64.out hwf.out)
        have hown6 : Hid (w6.ownsRow w1.heap.size 30 9 (.slice va k vc) k (rowsOf cellRow ((packedC h roots).take k))) := by have h' := OC6.out.1; rw [hlO.out] at h'; exact h'
        go_wp2_with (at_builtin; refine wpList_append_lies _ rfl _ _ _ rfl w1.heap.size 30 i0 _ 9 96 Try.underlying23 I.out I0.out I1.out I2.out rfl (by omega) (.slice va k vc) k (rowsOf cellRow ((packedC h roots).take k)) rfl (own_below hown6.out (by go_grown)) ⟨w6.heap.size, 0, none⟩ 1 1 [.int .i64 c.kind, .int .i64 c.n, .string c.s, .int .i64 (movedP at_ c.a).kind, .int .i64 (movedP at_ c.a).n, .string (movedP at_ c.a).s, .int .i64 (movedP at_ c.b).kind, .int .i64 (movedP at_ c.b).n, .string (movedP at_ c.b).s] rfl rfl (World.news_of_block (cs := #[.int .i64 c.kind, .int .i64 c.n, .string c.s, .int .i64 (movedP at_ c.a).kind, .int .i64 (movedP at_ c.a).n, .string (movedP at_ c.a).s, .int .i64 (movedP at_ c.b).kind, .int .i64 (movedP at_ c.b).n, .string (movedP at_ c.b).s]) (t := 30) (fr := (0, 0)) (heap_alloc_new' _ _ _ (by simp))) (by intro u hu; simp at hu; rcases hu with rfl | rfl | rfl | rfl | rfl | rfl | rfl | rfl | rfl <;> rfl) (by omega) (by unfold maxLen; omega) (by omega) (by simp; omega) _ rfl ?_; intro g cap w7 hown hgrow hat hlt3)
        go_roundw
        case rel =>
          have hB7 : Below w1.heap.size w1 w7 := below_grown2 (wr := w6) hgrow (by go_grown) hw16 hw16.size hown6.out
          have OC7 : OwnCells w1.heap.size w7 (.slice (some ⟨g, 0, none⟩) (k + 1) cap) ((packedC h roots).take (k + 1)) := by
            rw [hst.out]
            refine ⟨?_, fun y hy => ?_⟩
            · have : ((packedC h roots).take k ++ [cellMoved at_ c]).length = k + 1 := by rw [List.length_append, hlO.out]; rfl
              rw [this, rowsOf_append, rowsOf_one]
              exact hown
            · rcases List.mem_append.1 hy with h' | h'
              · exact OC6.out.2 y h'
              · simp at h'; subst h'; exact hwfm.out
          exact ⟨k + 1, _, by omega, by go_num, rfl, hB7, OC7⟩
        case measure => simp [intOf]; omega
    · obtain rfl : q = k := by omega
      rw [take_full (Lib.hid hlC.symm)] at OC
      obtain ⟨va, vc, rfl⟩ := OC.form
      rw [hlC] at OC ⊢
      replace OC := Lib.hid OC; replace hlC := Lib.hid hlC
      have hw8 := hb.trans (hwr.mono hsz)
      have hs8 := hw8.size
      have SA8 : Hid (Sl IntR 1 w.heap.size wr (.slice ra n rc) at_) := SA.out.below IntR.good hwr
      have H1 := Lib.hid (h1.out.below GVal.good hw8)
      generalize hw8e : wr = w8 at *
      clear hw8e
      obtain ⟨w9, hW9⟩ : ∃ W, W = w8.alloc (.cells #[] 28) := ⟨_, rfl⟩
      have OV : OwnVals w8.heap.size w9 (.slice (some ⟨w8.heap.size, 0, none⟩) 0 0) [] := ⟨by
        have h1 := own_new w8 #[] 28 3 0 rfl (by unfold maxLen; omega) w8.heap.size (Nat.le_refl _)
        rw [hW9]; simpa [rowsOf] using h1, fun x hx => by cases hx⟩
      have hb9 : Below w8.heap.size w8 w9 := by rw [hW9]; go_grown
      have hlV : Hid ((packedV h roots).length = m) := by show _ = _; rw [hPV.out, List.length_map]; exact hm.out.symm
      replace OV := Lib.hid OV
      go_upto_region 11 with fail
      rw [← hW9]
      clear hW9
      go_wp2_with fail
      go_loopw [50, 12] (fun ii cv wr => ∃ (k : Nat) (v : Value), k ≤ m ∧ ii = .int .i64 k ∧ cv = v ∧ Below w8.heap.size w8 wr ∧ OwnVals w8.heap.size wr v ((packedV h roots).take k)) (fun ii _ _ => m - (intOf ii).toNat)
      case atStart => exact ⟨0, _, by omega, rfl, rfl, hb9, OV.out⟩
      case round =>
        clear hb9 OV
        obtain ⟨k, v, hk, rfl, rfl, hwr9, OV⟩ := hrel
        have hsr9 := hwr9.size
        by_cases hlt : k < m
        · obtain ⟨b1, o1, x, s1, _, rfl, P1, ⟨rfl, hwf⟩, r1⟩ := (H1.out.below GVal.good hwr9).get hm hlt
          have hcc := H.out.roots x (List.mem_of_getElem? P1.out)
          rw [← hlA.out] at hcc
          have hst : (packedV h roots).take (k + 1) = (packedV h roots).take k ++ [movedP at_ x] := by
            rw [hPV.out, take_map_snoc P1.out]
          obtain ⟨R0, Ra1, Ra2⟩ := r1.cells3
          have hlO : ((packedV h roots).take k).length = k := by rw [List.length_take, hlV.out]; omega
          obtain ⟨xa, xc, rfl⟩ := OV.form
          have hwfm := Lib.hid (movedP_wf hA64.out hwf)
          rw [hlO] at OV ⊢
          have hownr : Hid (wr.ownsRow w8.heap.size 28 3 (.slice xa k xc) k (rowsOf valRow ((packedV h roots).take k))) := by have h' := OV.1; rw [hlO] at h'; exact h'
          have cA := fun W (hW : Below wr.heap.size wr W) => moved_c x at_ _ _ hcc W ((SA8.out.below IntR.good hwr9).below IntR.good hW)
          replace OV := Lib.hid OV; replace cA := Lib.hid cA
          replace hst := Lib.hid hst; replace hlO := Lib.hid hlO; replace hwf := Lib.hid hwf
          clear r1 hcc
          go_wp2_with (first
            | (go_at_call 80; (with_reducible refine (cA.out _ (by go_grown)).mono ?_); rintro e w6 ⟨rfl, hbk⟩; have hb6 : Below wr.heap.size wr w6 := Below.trans (by go_grown) (hbk.mono (by first | exact Nat.le_refl _ | simp)); have hw16 := hwr9.trans (hb6.mono hsr9); have hs16 := hw16.size; have hown6 := Lib.hid (own_below hownr.out hb6))
            | (at_builtin; refine wpList_append_lies _ rfl _ _ _ rfl w8.heap.size 28 j0 _ 3 32 Try.underlying52 J.out J0.out J1.out J2.out rfl (by omega) (.slice xa k xc) k (rowsOf valRow ((packedV h roots).take k)) rfl (own_below hown6.out (by go_grown)) ⟨w6.heap.size, 0, none⟩ 1 1 [.int .i64 (movedP at_ x).kind, .int .i64 (movedP at_ x).n, .string (movedP at_ x).s] rfl rfl (World.news_of_block (cs := #[.int .i64 (movedP at_ x).kind, .int .i64 (movedP at_ x).n, .string (movedP at_ x).s]) (t := 28) (fr := (0, 0)) (heap_alloc_new' _ _ _ (by simp))) (by intro u hu; simp at hu; rcases hu with rfl | rfl | rfl <;> rfl) (by omega) (by unfold maxLen; omega) (by omega) (by simp; omega) _ rfl ?_; intro g cap w7 hown hgrow hat hlt3))
          go_roundw
          case rel =>
            have hB7 : Below w8.heap.size w8 w7 := below_grown2 (wr := w6) hgrow (by go_grown) hw16 hw16.size hown6.out
            have OC7 : OwnVals w8.heap.size w7 (.slice (some ⟨g, 0, none⟩) (k + 1) cap) ((packedV h roots).take (k + 1)) := by
              rw [hst.out]
              refine ⟨?_, fun y hy => ?_⟩
              · have : ((packedV h roots).take k ++ [movedP at_ x]).length = k + 1 := by rw [List.length_append, hlO.out]; rfl
                rw [this, rowsOf_append, rowsOf_one]
                exact hown
              · rcases List.mem_append.1 hy with h' | h'
                · exact OV.out.2 y h'
                · simp at h'; subst h'; exact hwfm.out
            exact ⟨k + 1, _, by omega, by go_num, rfl, hB7, OC7⟩
          case measure => simp [intOf]; omega
        · obtain rfl : m = k := by omega
          rw [take_full (Lib.hid hlV.out.symm)] at OV
          obtain ⟨xa, xc, rfl⟩ := OV.form
          rw [hlV.out] at OV ⊢
          replace OV := Lib.hid OV
          go_wp2_with fail
          go_returns
          refine ⟨_, _, rfl, (OC.out.below hwr9).mono (by omega), OV.out.mono (by omega), fun g h1 h2 => ?_, hw8.trans (hwr9.mono hs8)⟩
          have := (OC.out.base g h1).2; have := (OV.out.base g h2).1; omega

end Go.Proofs.Ytajbgkpjmgmdhaa

/- l11Move: the reference's moving of a value. -/
namespace Go.Proofs.Ytajbgkpjmgmdhaa
open Go.RowKit
set_option linter.unusedVariables false
set_option linter.unusedSimpArgs false
attribute [local go_sem] Ext.cell

theorem RowAt.at1 {w : World} {b o : Nat} {u : Value} (h : w.cell? ⟨b, o, none⟩ = some u) : RowAt w b o [u] := fun j c hc => by
  rcases j with _ | j
  · obtain rfl : u = c := by simpa using hc
    exact h
  · simp at hc
theorem kept_set3 {w : World} {b : Nat} (x y z : Value) : Kept (· = b) w (((w.setCell ⟨b, 0, none⟩ x).setCell ⟨b, 1, none⟩ y).setCell ⟨b, 2, none⟩ z) :=
  Kept.set (S := (· = b)) (p := ⟨b, 2, none⟩) (Kept.set (S := (· = b)) (p := ⟨b, 1, none⟩) (Kept.set (S := (· = b)) (p := ⟨b, 0, none⟩) (Kept.refl _ _) rfl _) rfl _) rfl _
/-- A value in the new heap, as the reference writes it. -/
def movedS (at_ : List Int) (v : GVal) : GVal := if v.kind = 6 then ⟨6, at_.getD v.n.toNat 0, ⟨#[]⟩⟩ else v
/-- The reference's state: the order and the places (one more than ours) lie in box b. -/
structure TSt (lo : Nat) (w : World) (b ga n : Nat) (A : Nat → Prop) (s : BfsS) : Prop where
  ex : ∃ ov, RowAt w b 0 [ov, .slice (some ⟨ga, 0, none⟩) n n] ∧ OwnInts lo w ov s.1 ∧ ∀ g, ov.ownBlock = some g → g ≠ ga ∧ g ≠ b ∧ ¬ A g
  own : OwnInts lo w (.slice (some ⟨ga, 0, none⟩) n n) (s.2.map (· + 1))
  len : s.2.length = n
  wr : Wr w b 0 2
  ne : b ≠ ga
  lo_ : lo ≤ b
  na : ¬ A ga
  nb : ¬ A b
theorem TSt.below {lo : Nat} {w w' : World} {b ga n : Nat} {A : Nat → Prop} {s : BfsS} (h : TSt lo w b ga n A s) (hb : Below w.heap.size w w') : TSt lo w' b ga n A s :=
  let ⟨ov, h1, h2, h3⟩ := h.ex
  ⟨⟨ov, h1.below hb, h2.below hb, h3⟩, h.own.below hb, h.len, h.wr.below hb, h.ne, h.lo_, h.na, h.nb⟩

set_option maxRecDepth 100000 in
set_option maxHeartbeats 8000000 in
theorem l11Move_c (v : GVal) (s : BfsS) (lo bT ga n : Nat) (A : Nat → Prop) (hn : n ≤ 1048576) (hv : IsCell n v) (hle : (meetP s v).1.length ≤ n) (h64 : ∀ x ∈ s.2, -1 ≤ x ∧ x ≤ n) (w : World) (M : TSt lo w bT ga n A s) (hlo : lo ≤ w.heap.size) (hA : ∀ q, A q → q < w.heap.size) :
    Calls Try.prog 84 #[.pointer (some ⟨bT, 0, none⟩), .agg #[.int .i64 v.kind, .int .i64 v.n, .string v.s]] w fun e w' => e = .returned (.agg #[.int .i64 (movedS (meetP s v).2 v).kind, .int .i64 (movedS (meetP s v).2 v).n, .string (movedS (meetP s v).2 v).s]) ∧ TSt lo w' bT ga n A (meetP s v) ∧ Below lo w w' ∧ Kept (fun q => ¬ A q) w w' := by
  obtain ⟨vk, vn, vs⟩ := v
  dsimp only at *
  obtain ⟨i1, hi0, hz0, hz1, hz2⟩ := info_parts info_IntS
  have J := Lib.hid hi0; have J0 := Lib.hid hz0; have J1 := Lib.hid hz1; have J2 := Lib.hid hz2
  clear hi0 hz0 hz1 hz2
  replace hv := Lib.hid hv
  replace hA := Lib.hid hA
  by_cases h6 : vk = 6
  · subst h6
    obtain ⟨k, rfl, hkn⟩ := hv.out rfl
    go_enter Try.func84, Try.ntmps84
    go_upto_region 1 with fail
    have D : RowAt (w.alloc (.cells #[.int .i64 6, .int .i64 (k : Int), .string vs] 28)) (w.heap.size) 0 [.int .i64 6, .int .i64 (k : Int), .string vs] := RowAt.box w #[.int .i64 6, .int .i64 (k : Int), .string vs] 28
    have D := D.below (show Below (w.alloc (.cells #[.int .i64 6, .int .i64 (k : Int), .string vs] 28)).heap.size (w.alloc (.cells #[.int .i64 6, .int .i64 (k : Int), .string vs] 28)) ((w.alloc (.cells #[.int .i64 6, .int .i64 (k : Int), .string vs] 28)).alloc (.cells #[.int .i64 0, .int .i64 0, .string ⟨#[]⟩] 28)) by go_grown)
    have E : RowAt ((w.alloc (.cells #[.int .i64 6, .int .i64 (k : Int), .string vs] 28)).alloc (.cells #[.int .i64 0, .int .i64 0, .string ⟨#[]⟩] 28)) (w.heap.size + 1) 0 [.int .i64 0, .int .i64 0, .string ⟨#[]⟩] := by have h := RowAt.box (w.alloc (.cells #[.int .i64 6, .int .i64 (k : Int), .string vs] 28)) #[.int .i64 0, .int .i64 0, .string ⟨#[]⟩] 28; simp only [World.size_alloc] at h; exact h
    have EW : Wr ((w.alloc (.cells #[.int .i64 6, .int .i64 (k : Int), .string vs] 28)).alloc (.cells #[.int .i64 0, .int .i64 0, .string ⟨#[]⟩] 28)) (w.heap.size + 1) 0 3 := by have h := Wr.box (w.alloc (.cells #[.int .i64 6, .int .i64 (k : Int), .string vs] 28)) #[.int .i64 0, .int .i64 0, .string ⟨#[]⟩] 28; simp only [World.size_alloc] at h; exact h
    have hw : Below w.heap.size w ((w.alloc (.cells #[.int .i64 6, .int .i64 (k : Int), .string vs] 28)).alloc (.cells #[.int .i64 0, .int .i64 0, .string ⟨#[]⟩] 28)) := by go_grown
    generalize ((w.alloc (.cells #[.int .i64 6, .int .i64 (k : Int), .string vs] 28)).alloc (.cells #[.int .i64 0, .int .i64 0, .string ⟨#[]⟩] 28)) = w0 at *
    have M0 := M.below hw
    have hw0 := hw.mono hlo
    have hz0 := hw.size
    have hga : ga < w.heap.size := (M.own.base ga rfl).2
    obtain ⟨d_0, d_1, d_2⟩ := D.box3; have hsD := World.block_lt_of_cell? _ _ d_0; dsimp only at hsD
    obtain ⟨ov, RO', OO', hne⟩ := M.ex
    have hob := OO'.base
    have hbT := World.block_lt_of_cell? _ _ RO'.box2.1; dsimp only at hbT
    have RO := RO'.below hw; have OO := OO'.below hw
    clear M RO' OO'
    obtain ⟨t_0, t_1⟩ := RO.box2
    have hbT0 : bT < w0.heap.size := by omega
    have hneD : w.heap.size ≠ ga := by omega
    obtain ⟨g', cap', hg', hg1, hg2, _, _, hR, hW⟩ := own_cells M0.own.1 (show 0 < (s.2.map (· + 1)).length by rw [List.length_map, M0.len]; omega)
    obtain rfl : ga = g' := by injection hg' with e1 e2 e3; injection e1 with e1; injection e1
    clear hg'
    have hkl : k < s.2.length := by rw [M0.len]; exact hkn
    have hx := List.getElem?_eq_getElem hkl
    obtain ⟨x, hxe⟩ : ∃ x, s.2[k] = x := ⟨_, rfl⟩
    rw [hxe] at hx
    have hx64 := h64 x (List.mem_of_getElem? hx)
    have hR' := hR k (.int .i64 (x + 1)) (by simpa using flatInt.get (xs := s.2.map (· + 1)) (i := k) (x := x + 1) (j := 0) (c := .int .i64 (x + 1)) (by rw [List.getElem?_map, hx]; rfl) rfl)
    rw [Nat.zero_add] at hR'
    have hWk := hW k (by rw [List.length_map, M0.len]; omega)
    rw [Nat.zero_add] at hWk
    obtain ⟨_, _, hWf⟩ := hWk
    have hgd : s.2.getD k 0 = x := by rw [List.getD_eq_getElem?_getD, hx]; rfl
    have hwr : IntKind.i64.wrap (x + 1 - 1) = x := by rw [show x + 1 - 1 = x by omega]; exact IntWalk.i64_in _ (by omega)
    clear hR hW
    by_cases hneg : x < 0
    · obtain rfl : x = -1 := by omega
      have e : meetP s ⟨6, (k : Int), vs⟩ = (s.1 ++ [(k : Int)], s.2.set k (s.1.length : Int)) := by unfold meetP; rw [if_pos ⟨rfl, by rw [Int.toNat_natCast, hgd]; exact hneg⟩, Int.toNat_natCast]
      rw [e] at hle
      rw [show (-1 + 1 : Int) = 0 from rfl] at hR'
      simp only [List.length_append, List.length_singleton] at hle
      obtain ⟨oa, oc, rfl⟩ := OO.form
      have hneO := hne
      replace M0 := Lib.hid M0; replace e := Lib.hid e; replace OO := Lib.hid OO; replace hne := Lib.hid hne; replace hob := Lib.hid hob
      go_upto_region 3 with fail
      go_region_held3 (fun w' => w'.cell? ⟨bT, 0, none⟩ = some (.slice oa s.1.length oc) ∧ w'.cell? ⟨bT, 1, none⟩ = some (.slice (some ⟨ga, 0, none⟩) n n) ∧ w'.cell? ⟨w.heap.size, 1, none⟩ = some (.int .i64 (k : Int)) ∧ w'.cell? ⟨ga, k, none⟩ = some (.int .i64 0))
        (first | exact ⟨t_0, t_1, d_1, hR'⟩ | go_keep) (fail)
      go_upto_region 4 with fail
      have tf_0 := M0.out.wr.frz 0 (by omega)
      generalize hm : s.1.length = m at *
      have hown0 : w0.ownsRow lo 3 1 (.slice oa m oc) m (rowsOf intRow s.1) := hm ▸ OO.out.1
      replace hown0 := Lib.hid hown0; replace hm := Lib.hid hm
      have t_0' : w0.drew.drew.cell? ⟨bT, 0, none⟩ = some (.slice oa m oc) := t_0
      have t_1' : w0.drew.drew.cell? ⟨bT, 1, none⟩ = some (.slice (some ⟨ga, 0, none⟩) n n) := t_1
      have d_1' : w0.drew.drew.cell? ⟨w.heap.size, 1, none⟩ = some (.int .i64 (k : Int)) := d_1
      go_region_law
          (refine step_append_lies _ (by rfl) _ _ _ (by rfl) lo 3 i1 _ 1 8 Try.underlying24 J.out J0.out J1.out J2.out rfl (by omega) _ m (rowsOf intRow s.1) (by rfl) (own_below hown0.out (by go_grown)) ⟨w0.heap.size, 0, none⟩ 1 1 [.int .i64 (k : Int)] (by rfl) (by rfl) (World.news_of_block (cs := #[.int .i64 (k : Int)]) (t := 3) (fr := (0, 0)) (heap_alloc_new' _ _ _ (by simp))) (by intro u hu; simp at hu; subst hu; rfl) (by omega) (by unfold maxLen; omega) (by omega) (by simp; omega) (w0.heap.size + 1) (by simp) ?_; intro g cap w2 hown hgrow hat hlt2; have hk3 := kept_of hgrow (w := w0) (by go_grown); have RO2 := RO.kept hk3 (fun e => (hne.out _ e.symm).2.1 rfl); have WT2 := M0.out.wr.kept hk3 (fun e => (hne.out _ e.symm).2.1 rfl); obtain ⟨c_0, c_1⟩ := RO2.box2; have cf_0 := WT2.frz 0 (by omega))
      all_goals
        obtain ⟨w3, hW3⟩ : ∃ W, W = w2.setCell ⟨bT, 0, none⟩ (.slice (some ⟨g, 0, none⟩) (m + 1) cap) := ⟨_, rfl⟩
        rw [← hW3]
        have hB0 : Below w0.heap.size w0 (w0.alloc (.cells #[.int .i64 (k : Int)] 3)) := by go_grown
        have hlob := M0.out.lo_
        have hnea := M0.out.ne
        have hloz : lo ≤ w0.heap.size := by omega
        have hB2 : Below lo w0 w2 := below_grown2 (wr := w0) hgrow (by go_grown) (Below.refl lo w0) hloz hown0.out
        have hz2 : w0.heap.size + 1 ≤ w2.heap.size := by have := hgrow.size; simpa using this
        have hgg : g ≠ ga ∧ g ≠ bT ∧ ¬ A g := by
          rcases hat with h' | h'
          · exact hne.out g h'
          · exact ⟨by omega, by omega, fun hh => by have := hA.out g hh; omega⟩
        have hgE : g ≠ w.heap.size + 1 := by
          rcases hat with h' | h'
          · have := hob.out g h'; omega
          · omega
        have hs23 : w3.heap.size = w2.heap.size := by rw [hW3]; simp [World.setCell]
        have K3 : Kept (· = bT) w2 w3 := by rw [hW3]; exact Kept.set (S := (· = bT)) (p := ⟨bT, 0, none⟩) (Kept.refl _ _) rfl _
        have nD : ∀ b, w.heap.size ≤ b → ¬ (some b = (Value.slice oa m oc).ownBlock) := fun b hb e => by
          have h1 := hob.out b e.symm; omega
        have D3 := (D.kept hk3 (nD _ (Nat.le_refl _))).kept K3 (by omega)
        have E3 := (E.kept hk3 (nD _ (by omega))).kept K3 (by omega)
        have EW3 := (EW.kept hk3 (nD _ (by omega))).kept K3 (by omega)
        have T3 : RowAt w3 bT 0 [.slice (some ⟨g, 0, none⟩) (m + 1) cap, .slice (some ⟨ga, 0, none⟩) n n] := by
          rw [hW3]; exact RowAt.of2 (cell_setCell_eq _ _ 0 _ c_0) ((cell_setCell_ne _ _ 0 1 _ (by omega)).trans c_1)
        have WT3 : Wr w3 bT 0 2 := by rw [hW3]; exact WT2.set 0 _
        have hB3 : Below lo w0 w3 := by rw [hW3]; exact hB2.setCell (p := ⟨bT, 0, none⟩) hlob _
        have OG3 : OwnInts lo w3 (.slice (some ⟨g, 0, none⟩) (m + 1) cap) (s.1 ++ [(k : Int)]) := by
          refine OwnF.kept (S := (· = bT)) ⟨?_, fun y hy => ?_⟩ K3 (fun q hq e => ?_)
          · rw [List.length_append, hm.out, rowsOf_append, rowsOf_one]; exact hown
          · rcases List.mem_append.1 hy with h' | h'
            · exact OO.out.2 y h'
            · simp at h'; subst h'; constructor <;> omega
          · obtain rfl : g = q := by simpa [Value.ownBlock] using hq
            exact hgg.2.1 e
        have OP3 : OwnInts lo w3 (.slice (some ⟨ga, 0, none⟩) n n) (s.2.map (· + 1)) := (M0.out.own.kept hk3 (fun q hq e => by
          obtain rfl : ga = q := by simpa [Value.ownBlock] using hq
          exact (hne.out _ e.symm).1 rfl)).kept K3 (fun q hq e => by
          obtain rfl : ga = q := by simpa [Value.ownBlock] using hq
          exact hnea e.symm)
        obtain ⟨g', cap3, hg', -, hg3, _, _, hR3, hW3'⟩ := own_cells OP3.1 (show 0 < (s.2.map (· + 1)).length by rw [List.length_map]; omega)
        obtain rfl : ga = g' := by injection hg' with e1 e2 e3; injection e1 with e1; injection e1
        have r3 := hR3 k (.int .i64 0) (by simpa using flatInt.get (xs := s.2.map (· + 1)) (i := k) (x := 0) (j := 0) (c := .int .i64 0) (by rw [List.getElem?_map, hx]; rfl) rfl)
        rw [Nat.zero_add] at r3
        have hWk := hW3' k (by rw [List.length_map]; omega)
        rw [Nat.zero_add] at hWk
        obtain ⟨_, _, rf3⟩ := hWk
        replace OG3 := Lib.hid OG3; replace OP3 := Lib.hid OP3
        clear hR3 hW3' hg' hW3 c_0 c_1 cf_0 RO2 WT2 hat hown t_0 t_1 t_0' t_1' d_0 d_1 d_2 d_1' hR' hWf OO hown0 RO
        obtain ⟨d_0, d_1, d_2⟩ := D3.box3
        obtain ⟨t_0, t_1⟩ := T3.box2
        go_upto_region 5 with fail
        go_region_held3 (fun w' => w'.cell? ⟨bT, 0, none⟩ = some (.slice (some ⟨g, 0, none⟩) (m + 1) cap) ∧ w'.cell? ⟨bT, 1, none⟩ = some (.slice (some ⟨ga, 0, none⟩) n n) ∧ w'.cell? ⟨w.heap.size, 1, none⟩ = some (.int .i64 (k : Int)))
          (first | exact ⟨t_0, t_1, d_1⟩ | exact ⟨(T3.set_other hnea _).box2.1, (T3.set_other hnea _).box2.2, (D3.set_other hneD _).box3.2.1⟩ | go_keep) (fail)
        obtain ⟨w4, hW4⟩ : ∃ W, W = w3.setCell ⟨ga, k, none⟩ (.int .i64 ((m : Int) + 1)) := ⟨_, rfl⟩
        rw [← hW4]
        have K4 : Kept (· = ga) w3 w4 := by rw [hW4]; exact Kept.set (S := (· = ga)) (p := ⟨ga, k, none⟩) (Kept.refl _ _) rfl _
        have T4 := T3.kept K4 hnea; have D4 := D3.kept K4 hneD; have E4 := E3.kept K4 (by omega); have EW4 := EW3.kept K4 (by omega)
        have WT4 := WT3.kept K4 hnea
        have hB4 : Below lo w0 w4 := by rw [hW4]; exact hB3.setCell (p := ⟨ga, k, none⟩) hg1 _
        have OG4 := OG3.out.kept K4 (fun q hq e => by
          obtain rfl : g = q := by simpa [Value.ownBlock] using hq
          exact hgg.1 e)
        have r4 : w4.cell? ⟨ga, k, none⟩ = some (.int .i64 ((m : Int) + 1)) := by rw [hW4]; exact cell_setCell_eq _ _ _ _ r3
        have hset : (s.2.set k (m : Int)).map (· + 1) = (s.2.map (· + 1)).set k ((m : Int) + 1) := by rw [List.map_set]
        have OP4 : OwnInts lo w4 (.slice (some ⟨ga, 0, none⟩) n n) ((s.2.set k (m : Int)).map (· + 1)) := by
          rw [hset]
          refine ⟨?_, fun y hy => ?_⟩
          · have h1 := OP3.out.1
            rw [List.length_map, M0.out.len] at h1
            have := own_store (v := .slice none 0 0) flatInt (k := k) (y := (m : Int) + 1) h1 (by rw [List.length_map]; exact hkl)
            rw [hW4, List.length_set, List.length_map, M0.out.len]
            rw [Nat.mul_one] at this
            exact this
          · rcases List.mem_or_eq_of_mem_set hy with h | rfl
            · exact OP3.out.2 y h
            · constructor <;> omega
        have hlen4 : (s.2.set k (m : Int)).length = n := by rw [List.length_set]; exact M0.out.len
        have hwr4 : IntKind.i64.wrap (m : Int) = (m : Int) := IntWalk.i64_in _ (by omega)
        have hmv : movedS (s.2.set k (m : Int)) ⟨6, (k : Int), vs⟩ = ⟨6, (m : Int), ⟨#[]⟩⟩ := by unfold movedS; rw [if_pos rfl, Int.toNat_natCast, List.getD_eq_getElem?_getD, List.getElem?_set_self hkl]; rfl
        have hTE : bT ≠ w.heap.size + 1 := by omega
        have hDE : w.heap.size ≠ w.heap.size + 1 := by omega
        have hAE : ga ≠ w.heap.size + 1 := by omega
        have hfin : ∀ W, Kept (· = w.heap.size + 1) w4 W → TSt lo W bT ga n A (s.1 ++ [(k : Int)], s.2.set k (m : Int)) := fun W K => ⟨⟨_, T4.kept K hTE, OG4.kept K (fun q hq e => by
          obtain rfl : g = q := by simpa [Value.ownBlock] using hq
          exact hgE e), fun q hq => by
          obtain rfl : g = q := by simpa [Value.ownBlock] using hq
          exact hgg⟩, OP4.kept K (fun q hq e => by
          obtain rfl : ga = q := by simpa [Value.ownBlock] using hq
          exact hAE e), hlen4, WT4.kept K hTE, hnea, hlob, M0.out.na, M0.out.nb⟩
        have hKA : Kept (fun q => ¬ A q) w w4 := (Kept.below hw).trans hz0 ((hk3.mono (fun q hq => (hne.out q hq.symm).2.2)).trans (by have := hgrow.size; simp at this; omega) ((K3.mono (fun q hq => by rw [hq]; exact M0.out.nb)).trans (by omega) (K4.mono (fun q hq => by rw [hq]; exact M0.out.na))))
        have hsz4 : w.heap.size ≤ w4.heap.size := by have : w4.heap.size = w3.heap.size := by rw [hW4]; simp [World.setCell]
                                                     omega
        have hAn : ∀ q, q = w.heap.size + 1 → ¬ A q := fun q hq hh => by have := hA.out q hh; omega
        replace hKA := Lib.hid hKA; replace hAn := Lib.hid hAn
        replace hfin := Lib.hid hfin; replace hmv := Lib.hid hmv
        have P4 : RowAt w4 ga k [.int .i64 ((m : Int) + 1)] := RowAt.at1 r4
        clear hW4 K4 K3 hk3 hgrow OP4 OG4 hset T3 D3 E3 EW3 t_0 t_1 d_0 d_1 d_2 r3 rf3 OG3 OP3 hlen4 WT3 WT4
        obtain ⟨d_0, d_1, d_2⟩ := D4.box3
        obtain ⟨t_0, t_1⟩ := T4.box2
        obtain ⟨e_0, e_1, e_2⟩ := E4.box3
        have ef_0 := EW4.frz 0 (by omega); have ef_1 := EW4.frz 1 (by omega); have ef_2 := EW4.frz 2 (by omega)
        go_upto_region 6 with fail
        go_region_held3 (fun w' => w'.cell? ⟨bT, 1, none⟩ = some (.slice (some ⟨ga, 0, none⟩) n n) ∧ w'.cell? ⟨w.heap.size, 1, none⟩ = some (.int .i64 (k : Int)) ∧ w'.cell? ⟨ga, k, none⟩ = some (.int .i64 ((m : Int) + 1)))
          (first | exact ⟨t_1, d_1, r4⟩ | exact ⟨(((T4.set_other hTE _).set_other hTE _).set_other hTE _).box2.2, (((D4.set_other hDE _).set_other hDE _).set_other hDE _).box3.2.1, (((P4.set_other hAE _).set_other hAE _).set_other hAE _).cells1⟩ | go_keep) (fail)
        all_goals go_wp2_with fail
        all_goals
          have q := stored3 (x := .int .i64 6) (y := .int .i64 (m : Int)) (z := .string ⟨#[]⟩) e_0 e_1 e_2
          refine bodyPost_ret (v := .agg #[.int .i64 6, .int .i64 (m : Int), .string ⟨#[]⟩]) (by simp [results, Try.results84, go_sem, q.1, q.2.1, q.2.2]) rfl ?_
          rw [e.out]
          dsimp only
          rw [hmv.out]
          exact ⟨rfl, hfin.out _ (kept_set3 _ _ _), (below_set3 (hw0.trans hB4) (show lo ≤ w.heap.size + 1 by omega) _ _ _).drew.drew, hKA.out.trans hsz4 ((kept_set3 _ _ _).mono hAn.out)⟩
    · have e : meetP s ⟨6, (k : Int), vs⟩ = s := by unfold meetP; rw [if_neg (by rw [Int.toNat_natCast, hgd]; exact fun ⟨_, h⟩ => hneg h)]
      have hmv : movedS s.2 ⟨6, (k : Int), vs⟩ = ⟨6, x, ⟨#[]⟩⟩ := by unfold movedS; rw [if_pos rfl, Int.toNat_natCast, hgd]
      have hd : ((x + 1 : Int) == 0) = false := by simp; omega
      have hd2 : decide ((x + 1 : Int) = 0) = false := decide_eq_false (by omega)
      have hwr4 : IntKind.i64.wrap x = x := IntWalk.i64_in _ (by omega)
      have hloz : lo ≤ w0.heap.size := by omega
      obtain ⟨oa, oc, rfl⟩ := OO.form
      have P0 : RowAt w0 ga k [.int .i64 (x + 1)] := RowAt.at1 hR'
      have hTE : bT ≠ w.heap.size + 1 := by omega
      have hDE : w.heap.size ≠ w.heap.size + 1 := by omega
      have hAE : ga ≠ w.heap.size + 1 := by omega
      have hfin : ∀ W, Kept (· = w.heap.size + 1) w0 W → TSt lo W bT ga n A s := fun W K => ⟨⟨_, RO.kept K hTE, OO.kept K (fun q hq e => by have := hob q hq; omega), hne⟩, M0.own.kept K (fun q hq e => by
          obtain rfl : ga = q := by simpa [Value.ownBlock] using hq
          exact hAE e), M0.len, M0.wr.kept K hTE, M0.ne, M0.lo_, M0.na, M0.nb⟩
      have hAn : ∀ q, q = w.heap.size + 1 → ¬ A q := fun q hq hh => by have := hA.out q hh; omega
      replace hAn := Lib.hid hAn
      replace hfin := Lib.hid hfin; replace hmv := Lib.hid hmv; replace e := Lib.hid e; replace M0 := Lib.hid M0; replace OO := Lib.hid OO; replace hne := Lib.hid hne; replace hob := Lib.hid hob
      have ef_0 := EW.frz 0 (by omega); have ef_1 := EW.frz 1 (by omega); have ef_2 := EW.frz 2 (by omega); obtain ⟨e_0, e_1, e_2⟩ := E.box3; have hsE := World.block_lt_of_cell? _ _ e_0; dsimp only at hsE
      go_upto_region 3 with fail
      go_region_held3 (fun w' => w'.cell? ⟨bT, 1, none⟩ = some (.slice (some ⟨ga, 0, none⟩) n n) ∧ w'.cell? ⟨w.heap.size, 1, none⟩ = some (.int .i64 (k : Int)) ∧ w'.cell? ⟨ga, k, none⟩ = some (.int .i64 (x + 1)))
        (first | exact ⟨t_1, d_1, hR'⟩ | go_keep) (fail)
      go_upto_region 6 with fail
      go_region_held3 (fun w' => w'.cell? ⟨bT, 1, none⟩ = some (.slice (some ⟨ga, 0, none⟩) n n) ∧ w'.cell? ⟨w.heap.size, 1, none⟩ = some (.int .i64 (k : Int)) ∧ w'.cell? ⟨ga, k, none⟩ = some (.int .i64 (x + 1)))
        (first | exact ⟨t_1, d_1, hR'⟩ | exact ⟨(((RO.set_other hTE _).set_other hTE _).set_other hTE _).box2.2, (((D.set_other hDE _).set_other hDE _).set_other hDE _).box3.2.1, (((P0.set_other hAE _).set_other hAE _).set_other hAE _).cells1⟩ | go_keep) (fail)
      all_goals go_wp2_with fail
      all_goals
        have q := stored3 (x := .int .i64 6) (y := .int .i64 x) (z := .string ⟨#[]⟩) e_0 e_1 e_2
        refine bodyPost_ret (v := .agg #[.int .i64 6, .int .i64 x, .string ⟨#[]⟩]) (by simp [results, Try.results84, go_sem, q.1, q.2.1, q.2.2]) rfl ?_
        rw [e.out]
        rw [hmv.out]
        exact ⟨rfl, hfin.out _ (kept_set3 _ _ _), (below_set3 hw0 (show lo ≤ w.heap.size + 1 by omega) _ _ _).drew.drew, (Kept.below hw).trans hz0 ((kept_set3 _ _ _).mono hAn.out)⟩
  · have e : meetP s ⟨vk, vn, vs⟩ = s := by unfold meetP; rw [if_neg (fun ⟨h, _⟩ => h6 h)]
    have hmv : movedS s.2 ⟨vk, vn, vs⟩ = ⟨vk, vn, vs⟩ := by unfold movedS; rw [if_neg h6]
    have hd : (vk == 6) = false := by simpa using h6
    have hd2 : (vk != 6) = true := by simpa using h6
    go_enter Try.func84, Try.ntmps84
    go_upto_region 1 with fail
    have D : RowAt (w.alloc (.cells #[.int .i64 vk, .int .i64 vn, .string vs] 28)) (w.heap.size) 0 [.int .i64 vk, .int .i64 vn, .string vs] := RowAt.box w #[.int .i64 vk, .int .i64 vn, .string vs] 28
    have D := D.below (show Below (w.alloc (.cells #[.int .i64 vk, .int .i64 vn, .string vs] 28)).heap.size (w.alloc (.cells #[.int .i64 vk, .int .i64 vn, .string vs] 28)) ((w.alloc (.cells #[.int .i64 vk, .int .i64 vn, .string vs] 28)).alloc (.cells #[.int .i64 0, .int .i64 0, .string ⟨#[]⟩] 28)) by go_grown)
    have E : RowAt ((w.alloc (.cells #[.int .i64 vk, .int .i64 vn, .string vs] 28)).alloc (.cells #[.int .i64 0, .int .i64 0, .string ⟨#[]⟩] 28)) (w.heap.size + 1) 0 [.int .i64 0, .int .i64 0, .string ⟨#[]⟩] := by have h := RowAt.box (w.alloc (.cells #[.int .i64 vk, .int .i64 vn, .string vs] 28)) #[.int .i64 0, .int .i64 0, .string ⟨#[]⟩] 28; simp only [World.size_alloc] at h; exact h
    have EW : Wr ((w.alloc (.cells #[.int .i64 vk, .int .i64 vn, .string vs] 28)).alloc (.cells #[.int .i64 0, .int .i64 0, .string ⟨#[]⟩] 28)) (w.heap.size + 1) 0 3 := by have h := Wr.box (w.alloc (.cells #[.int .i64 vk, .int .i64 vn, .string vs] 28)) #[.int .i64 0, .int .i64 0, .string ⟨#[]⟩] 28; simp only [World.size_alloc] at h; exact h
    have hw : Below w.heap.size w ((w.alloc (.cells #[.int .i64 vk, .int .i64 vn, .string vs] 28)).alloc (.cells #[.int .i64 0, .int .i64 0, .string ⟨#[]⟩] 28)) := by go_grown
    generalize ((w.alloc (.cells #[.int .i64 vk, .int .i64 vn, .string vs] 28)).alloc (.cells #[.int .i64 0, .int .i64 0, .string ⟨#[]⟩] 28)) = w0 at *
    have M0 := M.below hw
    have hw0 := hw.mono hlo
    obtain ⟨ov, RO', OO', hne⟩ := M.ex
    have hob := OO'.base
    have hbT := World.block_lt_of_cell? _ _ RO'.box2.1; dsimp only at hbT
    have hga : ga < w.heap.size := (M.own.base ga rfl).2
    have RO := RO'.below hw; have OO := OO'.below hw
    have hfin : ∀ W, Kept (· = w.heap.size + 1) w0 W → TSt lo W bT ga n A s := fun W K => ⟨⟨_, RO.kept K (by omega), OO.kept K (fun q hq e => by have := hob q hq; omega), hne⟩, M0.own.kept K (fun q hq e => by
          obtain rfl : ga = q := by simpa [Value.ownBlock] using hq
          omega), M0.len, M0.wr.kept K (by omega), M0.ne, M0.lo_, M0.na, M0.nb⟩
    have hAn : ∀ q, q = w.heap.size + 1 → ¬ A q := fun q hq hh => by have := hA.out q hh; omega
    have hz0 := hw.size
    replace hAn := Lib.hid hAn
    clear M RO' OO' RO OO M0 hne hob
    replace hfin := Lib.hid hfin; replace hmv := Lib.hid hmv; replace e := Lib.hid e
    obtain ⟨d_0, d_1, d_2⟩ := D.box3; have hsD := World.block_lt_of_cell? _ _ d_0; dsimp only at hsD; have ef_0 := EW.frz 0 (by omega); have ef_1 := EW.frz 1 (by omega); have ef_2 := EW.frz 2 (by omega); obtain ⟨e_0, e_1, e_2⟩ := E.box3; have hsE := World.block_lt_of_cell? _ _ e_0; dsimp only at hsE
    go_wp2_with fail
    have q := stored3 (x := .int .i64 vk) (y := .int .i64 vn) (z := .string vs) e_0 e_1 e_2
    refine bodyPost_ret (v := .agg #[.int .i64 vk, .int .i64 vn, .string vs]) (by simp [results, Try.results84, go_sem, q.1, q.2.1, q.2.2]) rfl ?_
    rw [e.out]
    rw [hmv.out]
    exact ⟨rfl, hfin.out _ (kept_set3 _ _ _), below_set3 hw0 (by omega) _ _ _, (Kept.below hw).trans hz0 ((kept_set3 _ _ _).mono hAn.out)⟩

end Go.Proofs.Ytajbgkpjmgmdhaa

/- l11Copy: what its loops keep, in plain Lean. -/
namespace Go.Proofs.Ytajbgkpjmgmdhaa
open Go.RowKit
set_option linter.unusedVariables false
set_option linter.unusedSimpArgs false
attribute [local go_sem] Ext.cell

/-- No place has a number below -1. -/
def Neg1 (s : BfsS) : Prop := ∀ x ∈ s.2, -1 ≤ x
theorem Neg1.meet {s : BfsS} (h : Neg1 s) (v : GVal) : Neg1 (meetP s v) := by
  unfold meetP
  split
  · intro x hx
    rcases List.mem_or_eq_of_mem_set hx with h' | rfl
    · exact h x h'
    · omega
  · exact h
theorem Neg1.bound {n : Nat} {P : Nat → Prop} {s : BfsS} (h : Neg1 s) (B : BInv n P s) : ∀ x ∈ s.2, -1 ≤ x ∧ x ≤ n := fun x hx => by
  refine ⟨h x hx, ?_⟩
  obtain ⟨i, hi, rfl⟩ := List.getElem_of_mem hx
  have := B.le
  rcases B.at_ i _ (List.getElem?_eq_getElem hi) with ⟨h1, _⟩ | ⟨h1, h2⟩
  · omega
  · have := (List.getElem?_eq_some_iff.1 h2).1; omega
theorem Neg1.start (n : Nat) : Neg1 ([], List.replicate n (-1)) := fun x hx => by
  have := (List.mem_replicate.1 hx).2; omega
theorem Neg1.foldl {l : List GVal} : ∀ {s : BfsS}, Neg1 s → Neg1 (l.foldl meetP s) := by
  induction l with
  | nil => exact fun h => h
  | cons v l ih => exact fun h => ih (h.meet v)
theorem Neg1.bfs (h : List GCell) (f : Nat) : ∀ {k : Nat} {s : BfsS}, Neg1 s → Neg1 (bfsP h f k s) := by
  induction f with
  | zero => exact fun h => h
  | succ f ih =>
    intro k s hx
    unfold bfsP
    split
    · exact hx
    · split
      · exact hx
      · exact ih ((hx.meet _).meet _)
theorem Neg1.copied (h : List GCell) (roots : List GVal) : Neg1 (copiedP h roots) := Neg1.bfs _ _ (Neg1.foldl (Neg1.start _))
theorem bfsP_old (h : List GCell) (f : Nat) : ∀ {k : Nat} {s : BfsS} {i : Nat} {x : Int}, s.1[i]? = some x → (bfsP h f k s).1[i]? = some x := by
  induction f with
  | zero => exact fun h => h
  | succ f ih =>
    intro k s i x hx
    unfold bfsP
    split
    · exact hx
    · split
      · exact hx
      · exact ih (meetP_old (meetP_old hx))
theorem BLoop.old {h : List GCell} {roots : List GVal} {k : Nat} {s : BfsS} (L : BLoop h roots k s) {i : Nat} {x : Int} (hx : s.1[i]? = some x) : (copiedP h roots).1[i]? = some x := by
  rw [← L.eq]; exact bfsP_old _ _ hx
theorem movedS_eq {s : BfsS} {at_ : List Int} {v : GVal} (hb : v.kind = 6 → v.s = ⟨#[]⟩) (H : v.kind = 6 → ∃ (i : Nat) (x : Int), v.n = (i : Int) ∧ s.2[i]? = some x ∧ at_[i]? = some x) : movedS s.2 v = movedP at_ v := by
  unfold movedS movedP
  split
  · rename_i h6
    obtain ⟨i, x, e, h1, h2⟩ := H h6
    rw [e, Int.toNat_natCast, List.getD_eq_getElem?_getD, List.getD_eq_getElem?_getD, h1, h2, hb h6]
  · rfl
theorem TSt.kept {S : Nat → Prop} {lo : Nat} {w w' : World} {b ga n : Nat} {A : Nat → Prop} {s : BfsS} (h : TSt lo w b ga n A s) (hk : Kept S w w') (hS : ∀ q, S q → q < w.heap.size → A q) : TSt lo w' b ga n A s :=
  let ⟨ov, h1, h2, h3⟩ := h.ex
  have hb : b < w.heap.size := World.block_lt_of_cell? _ _ h1.box2.1
  have hg : ga < w.heap.size := (h.own.base ga rfl).2
  ⟨⟨ov, h1.kept hk (fun e => h.nb (hS _ e hb)), h2.kept hk (fun g hg e => (h3 g hg).2.2 (hS _ e (h2.base g hg).2)), h3⟩, h.own.kept hk (fun g hq e => by
    obtain rfl : ga = g := by simpa [Value.ownBlock] using hq
    exact h.na (hS _ e hg)), h.len, h.wr.kept hk (fun e => h.nb (hS _ e hb)), h.ne, h.lo_, h.na, h.nb⟩
theorem TSt.regrow {lo : Nat} {w : World} {b ga n : Nat} {A A' : Nat → Prop} {s : BfsS} (h0 : TSt lo w b ga n A s) (hA : ∀ q, A' q → A q ∨ w.heap.size ≤ q) : TSt lo w b ga n A' s :=
  let ⟨ov, h1, h2, h3⟩ := h0.ex
  have hb : b < w.heap.size := World.block_lt_of_cell? _ _ h1.box2.1
  have hg : ga < w.heap.size := (h0.own.base ga rfl).2
  have no : ∀ q, ¬ A q → q < w.heap.size → ¬ A' q := fun q h1 h2 h3 => (hA q h3).elim h1 (fun h => by omega)
  ⟨⟨ov, h1, h2, fun g hg => ⟨(h3 g hg).1, (h3 g hg).2.1, no g (h3 g hg).2.2 (h2.base g hg).2⟩⟩, h0.own, h0.len, h0.wr, h0.ne, h0.lo_, no _ h0.na hg, no _ h0.nb hb⟩

theorem TSt.lessA {lo : Nat} {w : World} {b ga n : Nat} {A A' : Nat → Prop} {s : BfsS} (h0 : TSt lo w b ga n A s) (hA : ∀ q, A' q → A q) : TSt lo w b ga n A' s := h0.regrow (fun q hq => .inl (hA q hq))
theorem made_zero (n : Nat) : (madeCells #[.int .i64 0] (n * 1)).toList = rowsOf intRow (List.replicate n 0) := by
  rw [Nat.mul_one]
  unfold madeCells
  induction n with
  | zero => simp [rowsOf]
  | succ n ih =>
    rw [List.replicate_succ', rowsOf_append, ← ih]
    simp [Array.range_succ, rowsOf, intRow, Nat.mod_one]

end Go.Proofs.Ytajbgkpjmgmdhaa

/- l11Copy: the reference's packing. -/
namespace Go.Proofs.Ytajbgkpjmgmdhaa
open Go.RowKit
set_option linter.unusedVariables false
set_option linter.unusedSimpArgs false
attribute [local go_sem] Ext.cell

set_option maxRecDepth 100000 in
set_option maxHeartbeats 8000000 in
theorem l11Copy_c (h : List GCell) (roots : List GVal) (u0 u1 : Value) (lo0 lo1 : Nat) (H : HeapIn h roots) (HB : HeapBare h roots) (hh : h.length ≤ 1048576) (hr : roots.length ≤ 1048576) (w : World) (hx0 : Sl GCell.R 9 lo0 w u0 h) (hx1 : Sl GVal.R 3 lo1 w u1 roots) :
    Calls Try.prog 67 #[u0, u1] w (PkPost w h roots) := by
  obtain ⟨a0, c0, rfl, l0, m0, h0⟩ := hx0
  obtain ⟨a1, cc1, rfl, l1, m1, h1⟩ := hx1
  have hwf0 : ∀ c ∈ h, c.wf := flatCell.wfs (h0.sl rfl l0 m0)
  have hwf1 : ∀ c ∈ roots, c.wf := flatVal.wfs (h1.sl rfl l1 m1)
  obtain ⟨n, hn⟩ : ∃ n, n = h.length := ⟨_, rfl⟩
  obtain ⟨m, hm⟩ : ∃ n, n = roots.length := ⟨_, rfl⟩
  rw [← hn] at l0 hh ⊢
  rw [← hm] at l1 hr ⊢
  obtain ⟨i0, hi0, hz0, hz1, hz2⟩ := info_parts info_CellS
  have I := Lib.hid hi0; have I0 := Lib.hid hz0; have I1 := Lib.hid hz1; have I2 := Lib.hid hz2
  clear hi0 hz0 hz1 hz2
  obtain ⟨j0, hi0, hz0, hz1, hz2⟩ := info_parts info_ValS
  have J := Lib.hid hi0; have J0 := Lib.hid hz0; have J1 := Lib.hid hz1; have J2 := Lib.hid hz2
  clear hi0 hz0 hz1 hz2
  obtain ⟨k0, hi0, hz0, hz1, hz2⟩ := info_parts info_IntS
  have X := Lib.hid hi0; have X0 := Lib.hid hz0; have X1 := Lib.hid hz1; have X2 := Lib.hid hz2
  clear hi0 hz0 hz1 hz2
  have hPC : packedC h roots = (copiedP h roots).1.map fun x => cellMoved (copiedP h roots).2 (h.getD x.toNat zeroG) := rfl
  have hPV : packedV h roots = roots.map (movedP (copiedP h roots).2) := rfl
  have hA64 : Hid (∀ x ∈ (copiedP h roots).2, I64 x) := by
    have B := (bloop_all H).inv
    intro x hx
    obtain ⟨i, hi, rfl⟩ := List.getElem_of_mem hx
    have := B.le
    rcases B.at_ i _ (List.getElem?_eq_getElem hi) with ⟨h1, _⟩ | ⟨h1, h2⟩
    · have h1' := Neg1.copied h roots _ (List.getElem_mem hi); constructor <;> omega
    · have := (List.getElem?_eq_some_iff.1 h2).1; constructor <;> omega
  replace hn := Lib.hid hn; replace hm := Lib.hid hm; replace h0 := Lib.hid h0; replace h1 := Lib.hid h1; replace H := Lib.hid H; replace HB := Lib.hid HB
  replace hwf0 := Lib.hid hwf0; replace hwf1 := Lib.hid hwf1; replace hPC := Lib.hid hPC; replace hPV := Lib.hid hPV
  go_enter Try.func67, Try.ntmps67
  go_upto_region 2 with (at_make; refine wpList_make_full _ rfl _ _ _ rfl w.heap.size 3 k0 _ 1 Try.underlying24 X.out X0.out X1.out _ _ _ _ n rfl rfl rfl rfl (by rw [X2.out]; omega) (by unfold maxLen; omega) (by simp) ?_; intro w1 hO hgw)
  rw [show (Value.int .i64 0).cells = #[.int .i64 0] from rfl, made_zero] at hO
  have hb1 : Below w.heap.size w w1 := (Below.refl w.heap.size w).grown (row := none) hgw (Nat.le_refl _) (by simp)
  have hs1 : w.heap.size < w1.heap.size := (own_base hO _ rfl).2
  obtain ⟨w2, hW2⟩ : ∃ W, W = w1.alloc (.cells #[.slice none 0 0, .slice (some ⟨w.heap.size, 0, none⟩) n n] 116) := ⟨_, rfl⟩
  rw [← hW2]
  have hb2 : Below w1.heap.size w1 w2 := by rw [hW2]; go_grown
  have T2 : TSt w.heap.size w2 w1.heap.size w.heap.size n (fun _ => False) ([], List.replicate n (-1)) := by
    refine ⟨⟨.slice none 0 0, by rw [hW2]; exact RowAt.box w1 #[_, _] _, OwnF.empty, fun g hg => by cases hg⟩, ⟨?_, fun x hx => ?_⟩, by simp, by rw [hW2]; exact Wr.box w1 #[_, _] _, by omega, by omega, fun h => h, fun h => h⟩
    · have := own_below hO hb2
      simpa using this
    · simp only [List.map_replicate] at hx
      obtain ⟨_, rfl⟩ := List.mem_replicate.1 hx
      constructor <;> omega
  have hw2 : Below w.heap.size w w2 := hb1.trans (hb2.mono hb1.size)
  clear hW2 hO hgw hb2
  obtain ⟨w3, hW3⟩ : ∃ W, W = w2.alloc (.cells #[] 28) := ⟨_, rfl⟩
  have OV : OwnVals w.heap.size w3 (.slice (some ⟨w2.heap.size, 0, none⟩) 0 0) [] := ⟨by
    have h1 := own_new w2 #[] 28 3 0 rfl (by unfold maxLen; omega) w.heap.size hw2.size
    rw [hW3]; simpa [rowsOf] using h1, fun x hx => by cases hx⟩
  have hb3 : Below w2.heap.size w2 w3 := by rw [hW3]; go_grown
  have hbT2 : w1.heap.size < w2.heap.size := World.block_lt_of_cell? _ _ T2.ex.choose_spec.1.box2.1
  have T3 : TSt w.heap.size w3 w1.heap.size w.heap.size n (fun q => (Value.slice (some ⟨w2.heap.size, 0, none⟩) 0 0).ownBlock = some q) ([], List.replicate n (-1)) := (T2.regrow (fun q hq => .inr (by
    obtain rfl : w2.heap.size = q := by simpa [Value.ownBlock] using hq
    exact Nat.le_refl _))).below hb3
  have hw3 : Below w.heap.size w w3 := hw2.trans (hb3.mono hw2.size)
  go_upto_region 3 with fail
  rw [← hW3]
  clear hW3 T2
  generalize w1.heap.size = bT at *
  generalize w2.heap.size = bN at *
  have L0 : RLoop h roots 0 ([], List.replicate n (-1)) := hn.out ▸ RLoop.zero h roots
  have hlV : Hid ((packedV h roots).length = m) := by show _ = _; rw [hPV.out, List.length_map]; exact hm.out.symm
  replace L0 := Lib.hid L0; replace OV := Lib.hid OV; replace T3 := Lib.hid T3
  go_wp2_with fail
  go_loopw [21, 7] (fun ii cv wr => ∃ (k : Nat) (s : BfsS) (v : Value), k ≤ m ∧ ii = .int .i64 k ∧ cv = v ∧ Below w.heap.size w wr ∧ TSt w.heap.size wr bT w.heap.size n (fun q => v.ownBlock = some q) s ∧ RLoop h roots k s ∧ Neg1 s ∧ OwnVals w.heap.size wr v ((packedV h roots).take k)) (fun ii _ _ => m - (intOf ii).toNat)
  case atStart => exact ⟨0, _, _, by omega, rfl, rfl, hw3, T3.out, L0.out, Neg1.start n, OV.out⟩
  case round =>
    clear hw3 T3 L0 OV
    obtain ⟨k, s, v, hk, rfl, rfl, hwr, TS, L, hN, OV⟩ := hrel
    have hsr := hwr.size
    by_cases hlt : k < m
    · obtain ⟨b1, o1, x, s1, _, rfl, P1, ⟨rfl, hwf⟩, r1⟩ := (h1.out.below GVal.good hwr).get hm hlt
      have hxm := List.mem_of_getElem? P1.out
      have hcc := H.out.roots x hxm
      have L2 := L.step H.out P1.out
      have hle2 := L2.inv.le
      have hmv : movedS (meetP s x).2 x = movedP (copiedP h roots).2 x := movedS_eq (HB.out.roots x hxm) fun h6 => by
        obtain ⟨i, y, e1, e2, e3, _⟩ := meet_num L.inv (v := x) (fun h6 => by
          obtain ⟨j, h1, h2⟩ := H.out.roots x hxm h6
          exact ⟨j, h1, h2, .root hxm h6 h1⟩) h6
        exact ⟨i, y, e1, e2, L2.keeps e2 e3⟩
      have hst : (packedV h roots).take (k + 1) = (packedV h roots).take k ++ [movedP (copiedP h roots).2 x] := by
        rw [hPV.out, take_map_snoc P1.out]
      obtain ⟨R0, Ra1, Ra2⟩ := r1.cells3
      have hlO : ((packedV h roots).take k).length = k := by rw [List.length_take, hlV.out]; omega
      obtain ⟨xa, xc, rfl⟩ := OV.form
      have hwfm := Lib.hid (movedP_wf hA64.out hwf)
      rw [hlO] at OV TS ⊢
      rw [← hn.out] at hcc hle2
      have hownr : Hid (wr.ownsRow w.heap.size 28 3 (.slice xa k xc) k (rowsOf valRow ((packedV h roots).take k))) := by have h' := OV.1; rw [hlO] at h'; exact h'
      have hbs := OV.base
      have hb64 := hN.bound L.inv
      rw [← hn.out] at hb64
      have cA := fun W (hW : Below wr.heap.size wr W) => l11Move_c x s w.heap.size bT w.heap.size n (fun q => (Value.slice xa k xc).ownBlock = some q) hh hcc hle2 hb64 W (TS.below hW) (by have := hW.size; omega) (fun q hq => by have := hbs q hq; have := hW.size; omega)
      rw [hmv] at cA
      replace OV := Lib.hid OV; replace cA := Lib.hid cA; replace L2 := Lib.hid L2; replace hN := Lib.hid (hN.meet x); replace hbs := Lib.hid hbs; replace hb64 := Lib.hid hb64
      replace hst := Lib.hid hst; replace hlO := Lib.hid hlO; replace hwf := Lib.hid hwf; replace hmv := Lib.hid hmv; replace hcc := Lib.hid hcc
      clear r1 L TS
      generalize hmx : movedP (copiedP h roots).2 x = y at *
      generalize hsx : meetP s x = s2 at *
      replace hmx := Lib.hid hmx; replace hsx := Lib.hid hsx
      go_wp2_with (first
        | (go_at_call 84; (with_reducible refine (cA.out _ (by go_grown)).mono ?_); rintro e w6 ⟨rfl, TS6, hbk, hKk⟩; have hb6 : Below w.heap.size w w6 := hwr.trans (Below.trans (by go_grown) hbk); have hs6 : wr.heap.size < w6.heap.size := (by have := hbk.size; simp at this; omega); have hK6 : Kept (fun q => ¬ (Value.slice xa k xc).ownBlock = some q) wr w6 := (Kept.below (by go_grown)).trans (by simp) hKk; have hown6 := Lib.hid (own_kept hownr.out hK6 (fun g hg e => e hg)))
        | (at_builtin; refine wpList_append_lies _ rfl _ _ _ rfl w.heap.size 28 j0 _ 3 32 Try.underlying52 J.out J0.out J1.out J2.out rfl (by omega) (.slice xa k xc) k (rowsOf valRow ((packedV h roots).take k)) rfl (own_below hown6.out (by go_grown)) ⟨w6.heap.size, 0, none⟩ 1 1 [.int .i64 y.kind, .int .i64 y.n, .string y.s] rfl rfl (World.news_of_block (cs := #[.int .i64 y.kind, .int .i64 y.n, .string y.s]) (t := 28) (fr := (0, 0)) (heap_alloc_new' _ _ _ (by simp))) (by intro u hu; simp at hu; rcases hu with rfl | rfl | rfl <;> rfl) (by omega) (by unfold maxLen; omega) (by omega) (by simp; omega) _ rfl ?_; intro g cap w7 hown hgrow hat hlt3))
      go_roundw
      case rel =>
        have hB7 : Below w.heap.size w w7 := below_grown2 (wr := w6) hgrow (by go_grown) hb6 hb6.size hown6.out
        simp only [World.size_alloc] at hat
        have OC7 : OwnVals w.heap.size w7 (.slice (some ⟨g, 0, none⟩) (k + 1) cap) ((packedV h roots).take (k + 1)) := by
          rw [hst.out]
          refine ⟨?_, fun y' hy => ?_⟩
          · have : ((packedV h roots).take k ++ [y]).length = k + 1 := by rw [List.length_append, hlO.out]; rfl
            rw [this, rowsOf_append, rowsOf_one]
            exact hown
          · rcases List.mem_append.1 hy with h' | h'
            · exact OV.out.2 y' h'
            · simp at h'; subst h'; exact hwfm.out
        have TS7 : TSt w.heap.size w7 bT w.heap.size n (fun q => (Value.slice (some ⟨g, 0, none⟩) (k + 1) cap).ownBlock = some q) s2 := by
          have hk7 := kept_of hgrow (w := w6) (by go_grown)
          refine TSt.kept (S := fun q => (Value.slice xa k xc).ownBlock = some q) (TS6.regrow (A' := fun q => (Value.slice xa k xc).ownBlock = some q ∨ (Value.slice (some ⟨g, 0, none⟩) (k + 1) cap).ownBlock = some q) (fun q hq => ?_)) (hk7.mono (fun q hq => hq.symm)) (fun q hq _ => .inl hq) |>.lessA (fun q hq => .inr hq)
          rcases hq with h' | h'
          · exact .inl h'
          · obtain rfl : g = q := by simpa [Value.ownBlock] using h'
            rcases hat with h'' | h''
            · exact .inl h''
            · exact .inr (by omega)
        exact ⟨k + 1, s2, _, by omega, by go_num, rfl, hB7, TS7, L2.out, hN.out, OC7⟩
      case measure => simp [intOf]; omega
    · obtain rfl : m = k := by omega
      rw [take_full (Lib.hid hlV.out.symm)] at OV
      obtain ⟨na, nc, rfl⟩ := OV.form
      rw [hlV.out] at OV TS ⊢
      have BL := L.done hm.out
      clear L
      obtain ⟨w9, hW9⟩ : ∃ W, W = wr.alloc (.cells #[] 30) := ⟨_, rfl⟩
      have hb9 : Below wr.heap.size wr w9 := by rw [hW9]; go_grown
      have OC : OwnCells w.heap.size w9 (.slice (some ⟨wr.heap.size, 0, none⟩) 0 0) [] := ⟨by
        have h1 := own_new wr #[] 30 9 0 rfl (by unfold maxLen; omega) w.heap.size hsr
        rw [hW9]; simpa [rowsOf] using h1, fun x hx => by cases hx⟩
      have hnb := OV.base
      have hap : ∀ g, (Value.slice (some ⟨wr.heap.size, 0, none⟩) 0 0).ownBlock = some g → (Value.slice na m nc).ownBlock ≠ some g := fun g h1 h2 => by
        obtain rfl : wr.heap.size = g := by simpa [Value.ownBlock] using h1
        have := hnb _ h2; omega
      have T9 := (TS.regrow (A' := fun q => (Value.slice na m nc).ownBlock = some q ∨ (Value.slice (some ⟨wr.heap.size, 0, none⟩) 0 0).ownBlock = some q) (fun q hq => hq.imp id (fun h => by
        obtain rfl : wr.heap.size = q := by simpa [Value.ownBlock] using h
        exact Nat.le_refl _))).below hb9
      have OV9 := OV.below hb9
      have hw9 := hwr.trans (hb9.mono hsr)
      replace OC := Lib.hid OC; replace T9 := Lib.hid T9; replace OV9 := Lib.hid OV9; replace hap := Lib.hid hap; replace hN := Lib.hid hN; replace BL := Lib.hid BL
      clear TS OV hnb
      go_upto_region 9 with fail
      rw [← hW9]
      clear hW9 hb9
      generalize wr.heap.size = bO at *
      have hlC : Hid ((packedC h roots).length = (copiedP h roots).1.length) := by show _ = _; rw [hPC.out, List.length_map]
      go_wp2_with fail
      go_loopw [11, 10] (fun ii cv wr => ∃ (k : Nat) (s : BfsS) (v : Value), ii = .int .i64 k ∧ cv = v ∧ Below w.heap.size w wr ∧ TSt w.heap.size wr bT w.heap.size n (fun q => (Value.slice na m nc).ownBlock = some q ∨ v.ownBlock = some q) s ∧ BLoop h roots k s ∧ Neg1 s ∧ OwnCells w.heap.size wr v ((packedC h roots).take k) ∧ OwnVals w.heap.size wr (.slice na m nc) (packedV h roots) ∧ (∀ g, v.ownBlock = some g → (Value.slice na m nc).ownBlock ≠ some g)) (fun ii _ _ => n - (intOf ii).toNat)
      case atStart => exact ⟨0, _, _, rfl, rfl, hw9, T9.out, BL.out, hN.out, OC.out, OV9.out, hap.out⟩
      case round =>
        clear hw9 T9 BL hN OC OV9 hap hwr hsr
        obtain ⟨k, s, v, rfl, rfl, hwr, TS, L, hN, OC, OV, hap⟩ := hrel
        have hsr := hwr.size
        have hle := L.inv.le
        rw [← hn.out] at hle
        have hkn := L.le
        obtain ⟨ov, RO, OO, -⟩ := TS.ex
        obtain ⟨oa, oc, rfl⟩ := OO.form
        obtain ⟨t_0, t_1⟩ := RO.box2
        have hbTr : bT < wr.heap.size := World.block_lt_of_cell? _ _ t_0
        by_cases hlt : k < s.1.length
        · obtain ⟨j, c, hkj, hjn, hjc, hR⟩ := L.get hlt
          obtain ⟨b1, o1, c', s1, hn', rfl, P1, ⟨rfl, hwf⟩, r1⟩ := h0.out.get hn (hn.out ▸ hjn)
          obtain rfl : c = c' := by have := P1.out; rw [hjc] at this; exact Option.some.inj this
          have hmem := List.mem_of_getElem? hjc
          have hcm := H.out.cells c hmem
          have hbare := HB.out.cells c hmem
          obtain ⟨g1, cap1, hg1, _, hg2, _, _, hR1, _⟩ := own_cells OO.1 (by omega)
          obtain ⟨rfl, rfl⟩ : oa = some ⟨g1, 0, none⟩ ∧ oc = cap1 := by injection hg1 with e1 e2 e3; exact ⟨e1, e3⟩
          have hx := hR1 k (.int .i64 (j : Int)) (by simpa using flatInt.get (j := 0) (c := .int .i64 (j : Int)) hkj rfl)
          rw [Nat.zero_add] at hx
          obtain ⟨R0, Ra1, Ra2, Ra3, Ra4, Ra5, Ra6, Ra7, Ra8⟩ := (r1.below hwr).cells9
          have hA1 := L.inv.meet (v := c.a) fun h6 => by
            obtain ⟨i, e1, e2⟩ := hcm.1 h6
            exact ⟨i, e1, e2, .left hR hjc h6 e1⟩
          have hle1 := hA1.1.le
          have L2 := L.step H.out hkj hjc hR
          have hle2 := L2.inv.le
          have hma : movedS (meetP s c.a).2 c.a = movedP (copiedP h roots).2 c.a := movedS_eq hbare.1 fun h6 => by
            obtain ⟨i, y, e1, e2, e3, _⟩ := meet_num L.inv (v := c.a) (fun h6 => by
              obtain ⟨i, e1, e2⟩ := hcm.1 h6
              exact ⟨i, e1, e2, .left hR hjc h6 e1⟩) h6
            exact ⟨i, y, e1, e2, L2.keeps (meetP_keeps e2 e3) e3⟩
          have hmb : movedS (meetP (meetP s c.a) c.b).2 c.b = movedP (copiedP h roots).2 c.b := movedS_eq hbare.2 fun h6 => by
            obtain ⟨i, y, e1, e2, e3, _⟩ := meet_num hA1.1 (v := c.b) (fun h6 => by
              obtain ⟨i, e1, e2⟩ := hcm.2 h6
              exact ⟨i, e1, e2, .right hR hjc h6 e1⟩) h6
            exact ⟨i, y, e1, e2, L2.keeps e2 e3⟩
          have hst : (packedC h roots).take (k + 1) = (packedC h roots).take k ++ [cellMoved (copiedP h roots).2 c] := by
            rw [hPC.out, take_map_snoc (L.old hkj)]
            congr 2
            rw [Int.toNat_natCast, List.getD_eq_getElem?_getD, hjc]; rfl
          have hlO : ((packedC h roots).take k).length = k := by
            have := (List.getElem?_eq_some_iff.1 (L.old hkj)).1
            rw [List.length_take, hlC.out]; omega
          obtain ⟨va, vc, rfl⟩ := OC.form
          rw [hlO] at OC TS hap ⊢
          rw [← hn.out] at hcm hle1 hle2 hjn
          have hbA := hN.bound L.inv
          have hbB := (hN.meet c.a).bound hA1.1
          rw [← hn.out] at hbA hbB
          have hwfm := Lib.hid (cellMoved_wf hA64.out hwf)
          have hcb := OC.base; have hvb := OV.base
          replace hst := Lib.hid hst; replace hlO := Lib.hid hlO; replace hwf := Lib.hid hwf; replace hma := Lib.hid hma; replace hmb := Lib.hid hmb
          replace L2 := Lib.hid L2; replace hN2 := Lib.hid ((hN.meet c.a).meet c.b); replace hcb := Lib.hid hcb; replace hvb := Lib.hid hvb
          replace OC := Lib.hid OC; replace OV := Lib.hid OV; replace hap := Lib.hid hap; replace hbA := Lib.hid hbA; replace hbB := Lib.hid hbB; replace hcm := Lib.hid hcm; replace hbare := Lib.hid hbare; replace TS := Lib.hid TS
          clear r1 L hA1 hg1 hR1 OO RO hkj hN
          go_upto_region 13 with fail
          obtain ⟨w3, hW3⟩ : ∃ W, W = wr.alloc (.cells #[.int .i64 c.kind, .int .i64 c.n, .string c.s, .int .i64 c.a.kind, .int .i64 c.a.n, .string c.a.s, .int .i64 c.b.kind, .int .i64 c.b.n, .string c.b.s] 30) := ⟨_, rfl⟩
          rw [← hW3]
          have hb3 : Below wr.heap.size wr w3 := by rw [hW3]; go_grown
          have D : RowAt w3 wr.heap.size 0 [.int .i64 c.kind, .int .i64 c.n, .string c.s, .int .i64 c.a.kind, .int .i64 c.a.n, .string c.a.s, .int .i64 c.b.kind, .int .i64 c.b.n, .string c.b.s] := by rw [hW3]; exact RowAt.box wr #[_, _, _, _, _, _, _, _, _] _
          have DW : Wr w3 wr.heap.size 0 9 := by rw [hW3]; exact Wr.box wr #[_, _, _, _, _, _, _, _, _] _
          clear hW3 R0 Ra1 Ra2 Ra3 Ra4 Ra5 Ra6 Ra7 Ra8 t_0 t_1 hx
          obtain ⟨at_, hat_⟩ : ∃ l, l = (copiedP h roots).2 := ⟨_, rfl⟩
          rw [← hat_] at hma hmb hst hwfm
          generalize hbD : wr.heap.size = bD at *
          have hsD3 : bD < w3.heap.size := World.block_lt_of_cell? _ _ D.box9.1
          obtain ⟨AA, hAAd⟩ : ∃ AA : Nat → Prop, AA = fun q => ((Value.slice na m nc).ownBlock = some q ∨ (Value.slice va k vc).ownBlock = some q) ∨ q = bD := ⟨_, rfl⟩
          have hAAn : ∀ q, (Value.slice na m nc).ownBlock = some q → AA q := fun q hq => by rw [hAAd]; exact .inl (.inl hq)
          have hAAv : ∀ q, (Value.slice va k vc).ownBlock = some q → AA q := fun q hq => by rw [hAAd]; exact .inl (.inr hq)
          have hAAD : AA bD := by rw [hAAd]; exact .inr rfl
          have hAAlt : ∀ q, AA q → q < w3.heap.size := fun q hq => by
            rw [hAAd] at hq
            rcases hq with (h' | h') | h'
            · have := hvb.out q h'; omega
            · have := hcb.out q h'; omega
            · omega
          have TS3 : TSt w.heap.size w3 bT w.heap.size n AA s := (TS.out.regrow (A' := AA) (fun q hq => by
            rw [hAAd] at hq
            exact hq.imp id (fun e => by omega))).below (hbD.symm ▸ hb3)
          have hw3 := hwr.trans (hb3.mono hsr)
          have hs03 := hw3.size
          have cA := fun W (hW : Below w3.heap.size w3 W) => l11Move_c c.a s w.heap.size bT w.heap.size n AA hh hcm.out.1 hle1 hbA.out W (TS3.below hW) (by have := hW.size; omega) (fun q hq => by have := hAAlt q hq; have := hW.size; omega)
          rw [hma.out] at cA
          have OC3 := OC.out.below (hbD.symm ▸ hb3); have OV3 := OV.out.below (hbD.symm ▸ hb3)
          replace cA := Lib.hid cA; replace hAAn := Lib.hid hAAn; replace hAAv := Lib.hid hAAv; replace hAAlt := Lib.hid hAAlt; replace OC3 := Lib.hid OC3; replace OV3 := Lib.hid OV3; replace hAAd := Lib.hid hAAd; replace hAAD := Lib.hid hAAD
          obtain ⟨d_0, d_1, d_2, d_3, d_4, d_5, d_6, d_7, d_8⟩ := D.box9
          clear TS TS3
          generalize hya : movedP at_ c.a = ya at *
          generalize hyb : movedP at_ c.b = yb at *
          generalize hs1 : meetP s c.a = s1 at *
          go_upto_region 14 with (go_at_call 84; (with_reducible refine (cA.out _ (Below.refl _ _)).mono ?_); rintro e w5 ⟨rfl, TS5, hb5, hK5⟩; have D5 := D.kept hK5 (fun e => e hAAD.out); have DW5 := DW.kept hK5 (fun e => e hAAD.out); have OC5 := OC3.out.kept hK5 (fun g hg e => e (hAAv.out g hg)); have OV5 := OV3.out.kept hK5 (fun g hg e => e (hAAn.out g hg)); replace OC5 := Lib.hid OC5; replace OV5 := Lib.hid OV5; obtain ⟨e_0, e_1, e_2, e_3, e_4, e_5, e_6, e_7, e_8⟩ := D5.box9; have f_3 := DW5.frz 3 (by omega); have f_4 := DW5.frz 4 (by omega); have f_5 := DW5.frz 5 (by omega))
          obtain ⟨w6, hW6⟩ : ∃ W, W = ((w5.setCell ⟨bD, 3, none⟩ (.int .i64 ya.kind)).setCell ⟨bD, 4, none⟩ (.int .i64 ya.n)).setCell ⟨bD, 5, none⟩ (.string ya.s) := ⟨_, rfl⟩
          rw [← hW6]
          have D6 : RowAt w6 bD 0 [.int .i64 c.kind, .int .i64 c.n, .string c.s, .int .i64 ya.kind, .int .i64 ya.n, .string ya.s, .int .i64 c.b.kind, .int .i64 c.b.n, .string c.b.s] := by
            rw [hW6]; exact ((D5.setAt (j := 3) (by simp) _).setAt (j := 4) (by simp) _).setAt (j := 5) (by simp) _
          have K6 : Kept (· = bD) w5 w6 := by
            rw [hW6]; exact Kept.set (S := (· = bD)) (p := ⟨bD, 5, none⟩) (Kept.set (S := (· = bD)) (p := ⟨bD, 4, none⟩) (Kept.set (S := (· = bD)) (p := ⟨bD, 3, none⟩) (Kept.refl _ _) rfl _) rfl _) rfl _
          have DW6 : Wr w6 bD 0 9 := by rw [hW6]; exact ((DW5.set 3 _).set 4 _).set 5 _
          have hb6 : Below w.heap.size w w6 := by
            rw [hW6]; exact (((hw3.trans hb5).setCell (p := ⟨bD, 3, none⟩) hsr _).setCell (p := ⟨bD, 4, none⟩) hsr _).setCell (p := ⟨bD, 5, none⟩) hsr _
          have hs56 : w5.heap.size ≤ w6.heap.size := by rw [hW6]; simp [World.setCell]
          have hs35 := hb5.size
          have hnv : ∀ g, (Value.slice va k vc).ownBlock = some g → g ≠ bD := fun g hg => by have := hcb.out g hg; omega
          have hnn : ∀ g, (Value.slice na m nc).ownBlock = some g → g ≠ bD := fun g hg => by have := hvb.out g hg; omega
          have OC6 := Lib.hid (OC5.out.kept K6 (fun g hg e => hnv g hg e)); have OV6 := Lib.hid (OV5.out.kept K6 (fun g hg e => hnn g hg e))
          have TS6 := TS5.kept K6 (fun q hq _ => by rw [hq]; exact hAAD.out)
          have hs06 := hb6.size
          have cB := fun W (hW : Below w6.heap.size w6 W) => l11Move_c c.b s1 w.heap.size bT w.heap.size n AA hh hcm.out.2 hle2 hbB.out W (TS6.below hW) (by have := hW.size; omega) (fun q hq => by have := hAAlt.out q hq; have := hW.size; omega)
          rw [hmb.out] at cB
          replace cB := Lib.hid cB; replace hnv := Lib.hid hnv; replace hnn := Lib.hid hnn
          clear hW6 K6 d_0 d_1 d_2 d_3 d_4 d_5 d_6 d_7 d_8 e_0 e_1 e_2 e_3 e_4 e_5 e_6 e_7 e_8 f_3 f_4 f_5 TS5 TS6 hK5 cA D5 DW5 D DW OC5 OV5 OC3 OV3
          obtain ⟨d_0, d_1, d_2, d_3, d_4, d_5, d_6, d_7, d_8⟩ := D6.box9
          go_upto_region 15 with (go_at_call 84; (with_reducible refine (cB.out _ (Below.refl _ _)).mono ?_); rintro e w7 ⟨rfl, TS7, hb7, hK7⟩; have D7 := D6.kept hK7 (fun e => e hAAD.out); have DW7 := DW6.kept hK7 (fun e => e hAAD.out); have OC7 := OC6.out.kept hK7 (fun g hg e => e (hAAv.out g hg)); have OV7 := OV6.out.kept hK7 (fun g hg e => e (hAAn.out g hg)); replace OC7 := Lib.hid OC7; replace OV7 := Lib.hid OV7; obtain ⟨e_0, e_1, e_2, e_3, e_4, e_5, e_6, e_7, e_8⟩ := D7.box9; have f_6 := DW7.frz 6 (by omega); have f_7 := DW7.frz 7 (by omega); have f_8 := DW7.frz 8 (by omega))
          obtain ⟨w8, hW8⟩ : ∃ W, W = ((w7.setCell ⟨bD, 6, none⟩ (.int .i64 yb.kind)).setCell ⟨bD, 7, none⟩ (.int .i64 yb.n)).setCell ⟨bD, 8, none⟩ (.string yb.s) := ⟨_, rfl⟩
          rw [← hW8]
          have D8 : RowAt w8 bD 0 [.int .i64 c.kind, .int .i64 c.n, .string c.s, .int .i64 ya.kind, .int .i64 ya.n, .string ya.s, .int .i64 yb.kind, .int .i64 yb.n, .string yb.s] := by
            rw [hW8]; exact ((D7.setAt (j := 6) (by simp) _).setAt (j := 7) (by simp) _).setAt (j := 8) (by simp) _
          have K8 : Kept (· = bD) w7 w8 := by
            rw [hW8]; exact Kept.set (S := (· = bD)) (p := ⟨bD, 8, none⟩) (Kept.set (S := (· = bD)) (p := ⟨bD, 7, none⟩) (Kept.set (S := (· = bD)) (p := ⟨bD, 6, none⟩) (Kept.refl _ _) rfl _) rfl _) rfl _
          have hb8 : Below w.heap.size w w8 := by
            rw [hW8]; exact (((hb6.trans hb7).setCell (p := ⟨bD, 6, none⟩) hsr _).setCell (p := ⟨bD, 7, none⟩) hsr _).setCell (p := ⟨bD, 8, none⟩) hsr _
          have hs78 : w7.heap.size ≤ w8.heap.size := by rw [hW8]; simp [World.setCell]
          have hs67 := hb7.size
          have OC8 := Lib.hid (OC7.out.kept K8 (fun g hg e => hnv.out g hg e)); have OV8 := Lib.hid (OV7.out.kept K8 (fun g hg e => hnn.out g hg e))
          have TS8 := Lib.hid (TS7.kept K8 (fun q hq _ => by rw [hq]; exact hAAD.out))
          clear hW8 K8 d_0 d_1 d_2 d_3 d_4 d_5 d_6 d_7 d_8 e_0 e_1 e_2 e_3 e_4 e_5 e_6 e_7 e_8 f_6 f_7 f_8 TS7 hK7 cB D7 DW7 D6 DW6 OC7 OV7 OC6 OV6
          obtain ⟨d_0, d_1, d_2, d_3, d_4, d_5, d_6, d_7, d_8⟩ := D8.box9
          have hown8 : Hid (w8.ownsRow w.heap.size 30 9 (.slice va k vc) k (rowsOf cellRow ((packedC h roots).take k))) := by have h' := OC8.out.1; rw [hlO.out] at h'; exact h'
          have hs08 := hb8.size
          go_wp2_with (at_builtin; refine wpList_append_lies _ rfl _ _ _ rfl w.heap.size 30 i0 _ 9 96 Try.underlying23 I.out I0.out I1.out I2.out rfl (by omega) (.slice va k vc) k (rowsOf cellRow ((packedC h roots).take k)) rfl (own_below hown8.out (by go_grown)) ⟨w8.heap.size, 0, none⟩ 1 1 [.int .i64 c.kind, .int .i64 c.n, .string c.s, .int .i64 ya.kind, .int .i64 ya.n, .string ya.s, .int .i64 yb.kind, .int .i64 yb.n, .string yb.s] rfl rfl (World.news_of_block (cs := #[.int .i64 c.kind, .int .i64 c.n, .string c.s, .int .i64 ya.kind, .int .i64 ya.n, .string ya.s, .int .i64 yb.kind, .int .i64 yb.n, .string yb.s]) (t := 30) (fr := (0, 0)) (heap_alloc_new' _ _ _ (by simp))) (by intro u hu; simp at hu; rcases hu with rfl | rfl | rfl | rfl | rfl | rfl | rfl | rfl | rfl <;> rfl) (by omega) (by unfold maxLen; omega) (by omega) (by simp; omega) _ rfl ?_; intro g cap w9 hown hgrow hat hlt3)
          go_roundw
          case rel =>
            have hB9 : Below w.heap.size w w9 := below_grown2 (wr := w8) hgrow (by go_grown) hb8 hb8.size hown8.out
            have hk9 := kept_of hgrow (w := w8) (by go_grown)
            simp only [World.size_alloc] at hat
            have hcell : cellRow (cellMoved at_ c) = [.int .i64 c.kind, .int .i64 c.n, .string c.s, .int .i64 ya.kind, .int .i64 ya.n, .string ya.s, .int .i64 yb.kind, .int .i64 yb.n, .string yb.s] := by rw [← hya, ← hyb]; rfl
            have OC9 : OwnCells w.heap.size w9 (.slice (some ⟨g, 0, none⟩) (k + 1) cap) ((packedC h roots).take (k + 1)) := by
              rw [hst.out]
              refine ⟨?_, fun y hy => ?_⟩
              · have : ((packedC h roots).take k ++ [cellMoved at_ c]).length = k + 1 := by rw [List.length_append, hlO.out]; rfl
                rw [this, rowsOf_append, rowsOf_one, hcell]
                exact hown
              · rcases List.mem_append.1 hy with h' | h'
                · exact OC8.out.2 y h'
                · simp at h'; subst h'; exact hwfm.out
            have hgl : g < bD ∨ w8.heap.size ≤ g := by
              rcases hat with h' | h'
              · exact .inl (hcb.out g h').2
              · exact .inr (by omega)
            have TS9 : TSt w.heap.size w9 bT w.heap.size n (fun q => (Value.slice na m nc).ownBlock = some q ∨ (Value.slice (some ⟨g, 0, none⟩) (k + 1) cap).ownBlock = some q) (meetP s1 c.b) := by
              refine TSt.kept (S := fun q => (Value.slice va k vc).ownBlock = some q) (TS8.out.regrow (A' := fun q => AA q ∨ (Value.slice (some ⟨g, 0, none⟩) (k + 1) cap).ownBlock = some q) (fun q hq => ?_)) (hk9.mono (fun q hq => hq.symm)) (fun q hq _ => .inl (hAAv.out q hq)) |>.lessA (fun q hq => hq.imp (hAAn.out q) id)
              rcases hq with h' | h'
              · exact .inl h'
              · obtain rfl : g = q := by simpa [Value.ownBlock] using h'
                rcases hat with h'' | h''
                · exact .inl (hAAv.out _ h'')
                · exact .inr (by omega)
            have OV9 : OwnVals w.heap.size w9 (.slice na m nc) (packedV h roots) := OV8.out.kept hk9 (fun g' hg' e => hap.out g' e.symm hg')
            have hap9 : ∀ g', (Value.slice (some ⟨g, 0, none⟩) (k + 1) cap).ownBlock = some g' → (Value.slice na m nc).ownBlock ≠ some g' := fun g' h1 h2 => by
              obtain rfl : g = g' := by simpa [Value.ownBlock] using h1
              rcases hat with h' | h'
              · exact hap.out g h' h2
              · have := hvb.out g h2; omega
            exact ⟨k + 1, _, _, by go_num, rfl, hB9, TS9, L2.out, hN2.out, OC9, OV9, hap9⟩
          case measure => simp [intOf]; omega
        · have hk : k = s.1.length := by omega
          have he := L.done hk
          have hfull : (packedC h roots).take k = packedC h roots := take_full (Lib.hid (by rw [hlC.out, ← he]; exact hk))
          rw [hfull] at OC
          obtain ⟨va, vc, rfl⟩ := OC.form
          replace OC := Lib.hid OC; replace OV := Lib.hid OV; replace hap := Lib.hid hap; replace L := Lib.hid L; replace he := Lib.hid he; replace TS := Lib.hid TS; replace OO := Lib.hid OO; replace hN := Lib.hid hN
          go_wp2_with fail
          go_returns
          exact ⟨_, _, rfl, OC.out, OV.out, hap.out, hwr⟩

end Go.Proofs.Ytajbgkpjmgmdhaa

/- PoolPack: both walks. -/
namespace Go.Proofs.Ytajbgkpjmgmdhaa
open Go.RowKit
set_option linter.unusedVariables false
set_option linter.unusedSimpArgs false
attribute [local go_sem] Ext.cell

theorem valOk_bare {v : GVal} {m : Int} (h : valOk v m = true) (h6 : v.kind = 6) : v.s = ⟨#[]⟩ := by
  simp [valOk, h6] at h
  have e : v.s.toList = [] := h.2
  have h2 := v.s
  generalize v.s = s at e
  rw [ByteArray.toList_eq] at e
  obtain ⟨⟨l⟩⟩ := s
  have e' : l = [] := e
  rw [e']
theorem bare_of {p : GPool} {roots : List GVal} (h : poolOk p = true) (hr : roots.all (poolHolds p) = true) : HeapBare p.cells roots := by
  have h' : PoolOk p := by unfold poolOk at h; simpa using h
  have hz : ∀ v : GVal, zeroVal v = true → v.kind = 6 → v.s = ⟨#[]⟩ := fun v hv h6 => by
    unfold zeroVal at hv; simp [h6] at hv
  have hh : ∀ v : GVal, poolHolds p v = true → v.kind = 6 → v.s = ⟨#[]⟩ := fun v hv h6 => by
    unfold poolHolds at hv
    rw [Bool.and_eq_true] at hv
    exact valOk_bare hv.1 h6
  refine ⟨fun v hv => hh v (List.all_eq_true.1 hr v hv), fun c hc => ?_⟩
  obtain ⟨i, hi, rfl⟩ := List.getElem_of_mem hc
  rcases h'.2.2.2 i _ hi (List.getElem?_eq_getElem hi) with h1 | h1
  · obtain ⟨k, hk, e⟩ := List.getElem_of_mem h1
    obtain ⟨j, e1, h2, _, c, h3, h4⟩ := h'.2.2.1 k _ hk (List.getElem?_eq_getElem hk)
    obtain rfl : i = j := by omega
    rw [List.getElem?_eq_getElem hi] at h3
    obtain rfl := Option.some.inj h3
    unfold zeroCell at h4
    simp only [Bool.and_eq_true] at h4
    exact ⟨hz _ h4.1.2, hz _ h4.2⟩
  · unfold poolFits at h1
    simp only [Bool.and_eq_true, Bool.or_eq_true] at h1
    refine ⟨hh _ h1.1.2, ?_⟩
    rcases h1.2 with h2 | h2
    · exact hz _ h2
    · exact hh _ h2
open Classical in
noncomputable def ppC (p : GPool) (roots : List GVal) : List GCell := if psOk p roots then packedC p.cells roots else []
open Classical in
noncomputable def ppV (p : GPool) (roots : List GVal) : List GVal := if psOk p roots then packedV p.cells roots else []
open Classical in
noncomputable def ppB (p : GPool) (roots : List GVal) : Bool := if psOk p roots then true else false
def PpPost (w : World) (p : GPool) (roots : List GVal) (e : Ending) (w' : World) : Prop :=
  ∃ v0 v1, e = .returned (.tuple #[v0, v1, .bool (ppB p roots)]) ∧ OwnCells w.heap.size w' v0 (ppC p roots) ∧ OwnVals w.heap.size w' v1 (ppV p roots) ∧ (∀ g, v0.ownBlock = some g → v1.ownBlock ≠ some g) ∧ Below w.heap.size w w'
theorem pp_no {w w' : World} {p : GPool} {roots : List GVal} (h : ¬ psOk p roots) (hb : Below w.heap.size w w') : PpPost w p roots (.returned (.tuple #[.slice none 0 0, .slice none 0 0, .bool false])) w' :=
  ⟨_, _, by unfold ppB; rw [if_neg h], by unfold ppC; rw [if_neg h]; exact OwnF.empty, by unfold ppV; rw [if_neg h]; exact OwnF.empty, (fun g h => by cases h), hb⟩
theorem pp_yes {w w' W : World} {p : GPool} {roots : List GVal} {v0 v1 : Value} (h : psOk p roots) (hW : w.heap.size ≤ W.heap.size) (h0 : OwnCells W.heap.size w' v0 (packedC p.cells roots)) (h1 : OwnVals W.heap.size w' v1 (packedV p.cells roots)) (ha : ∀ g, v0.ownBlock = some g → v1.ownBlock ≠ some g) (hb : Below w.heap.size w w') :
    PpPost w p roots (.returned (.tuple #[v0, v1, .bool true])) w' :=
  ⟨_, _, by unfold ppB; rw [if_pos h], by unfold ppC; rw [if_pos h]; exact h0.mono hW, by unfold ppV; rw [if_pos h]; exact h1.mono hW, ha, hb⟩

set_option maxRecDepth 100000 in
set_option maxHeartbeats 4000000 in
theorem spec_PoolPack_c (p : GPool) (roots : List GVal) (r : List Value) (u : Value) (lo lo1 : Nat) (hbulk : p.bulk ≤ 1048576) (hr : roots.length ≤ 1048576) (w : World) (hp : GPool.R lo w r p) (hu : Sl GVal.R 3 lo1 w u roots) :
    Calls Try.prog 30 #[.agg r.toArray, u] w (PpPost w p roots) := by
  have Hp := hp
  have Hu := hu
  obtain ⟨u0, u1, rfl, -, a0, a1⟩ := hp
  have Ha0 := a0
  obtain ⟨pa, pc, rfl⟩ := a0.form
  obtain ⟨qa, qc, rfl⟩ := a1.form
  clear a0 a1
  obtain ⟨ra, rc, rfl⟩ := hu.form
  have n0 := length_le_bulkS (f := GCell.bulk) GCell.bulk_nonneg p.cells
  have n1 := length_nonneg p.free
  have hbulk' := hbulk
  simp only [GPool.bulk] at hbulk'
  have hlen : p.cells.length ≤ 1048576 := by omega
  have c1 := fun W (hW : Below w.heap.size w W) => l20Roots_c p roots _ _ lo lo1 hbulk hlen hr W (GPool.good.below Hp hW) (Hu.below GVal.good hW)
  by_cases hps : psOk p roots
  · have c2 := fun W (hW : Below w.heap.size w W) => l11Copy_c p.cells roots _ _ lo lo1 (heapIn_of hps.1 hps.2) (bare_of hps.1 hps.2) hlen hr W (Ha0.below GCell.good hW) (Hu.below GVal.good hW)
    rw [hps.1, hps.2, Bool.true_and] at c1
    replace c1 := Lib.hid c1; replace c2 := Lib.hid c2; replace hps := Lib.hid hps
    clear Ha0 hu Hp Hu hbulk hbulk' n0 n1
    go_enter Try.func30, Try.ntmps30
    go_upto_region 1 with fail
    have B : RowAt (w.alloc (.cells #[.slice pa p.cells.length pc, .slice qa p.free.length qc] 26)) (w.heap.size) 0 [.slice pa p.cells.length pc, .slice qa p.free.length qc] := RowAt.box w #[.slice pa p.cells.length pc, .slice qa p.free.length qc] 26
    have hw : Below w.heap.size w (w.alloc (.cells #[.slice pa p.cells.length pc, .slice qa p.free.length qc] 26)) := by go_grown
    generalize (w.alloc (.cells #[.slice pa p.cells.length pc, .slice qa p.free.length qc] 26)) = w0 at *
    obtain ⟨b_0, b_1⟩ := B.box2; have hsB := World.block_lt_of_cell? _ _ b_0; dsimp only at hsB
    go_wp2_with (first
      | (go_at_call 59; (with_reducible refine (c1.out _ hw).mono ?_); rintro en w5 ⟨rfl, hbk⟩; have hw5 : Below w.heap.size w w5 := hw.trans (hbk.mono hw.size); have B5 := B.below hbk; obtain ⟨b5_0, b5_1⟩ := B5.box2; have hsB5 := World.block_lt_of_cell? _ _ b5_0; dsimp only at hsB5)
      | (go_at_call 67; (with_reducible refine (c2.out _ hw5).mono ?_); rintro en w6 ⟨v0, v1, rfl, O0, O1, hap, hbk⟩; have hw6 : Below w.heap.size w w6 := hw5.trans (hbk.mono hw5.size)))
    go_returns
    exact pp_yes hps.out hw5.size O0 O1 hap hw6
  · rw [show (roots.all (poolHolds p) && poolOk p) = false from by
      cases h1 : roots.all (poolHolds p) <;> cases h2 : poolOk p <;> simp
      exact hps ⟨h2, h1⟩] at c1
    replace c1 := Lib.hid c1; replace hps := Lib.hid hps
    clear Ha0 hu Hp Hu hbulk hbulk' n0 n1
    go_enter Try.func30, Try.ntmps30
    go_upto_region 1 with fail
    have B : RowAt (w.alloc (.cells #[.slice pa p.cells.length pc, .slice qa p.free.length qc] 26)) (w.heap.size) 0 [.slice pa p.cells.length pc, .slice qa p.free.length qc] := RowAt.box w #[.slice pa p.cells.length pc, .slice qa p.free.length qc] 26
    have hw : Below w.heap.size w (w.alloc (.cells #[.slice pa p.cells.length pc, .slice qa p.free.length qc] 26)) := by go_grown
    generalize (w.alloc (.cells #[.slice pa p.cells.length pc, .slice qa p.free.length qc] 26)) = w0 at *
    obtain ⟨b_0, b_1⟩ := B.box2; have hsB := World.block_lt_of_cell? _ _ b_0; dsimp only at hsB
    go_wp2_with (go_at_call 59; (with_reducible refine (c1.out _ hw).mono ?_); rintro en w5 ⟨rfl, hbk⟩; have hw5 : Below w.heap.size w w5 := hw.trans (hbk.mono hw.size))
    go_returns
    exact pp_no hps.out hw5

set_option maxRecDepth 100000 in
set_option maxHeartbeats 4000000 in
theorem impl_PoolPack_c (p : GPool) (roots : List GVal) (r : List Value) (u : Value) (lo lo1 : Nat) (hbulk : p.bulk ≤ 1048576) (hr : roots.length ≤ 1048576) (w : World) (hp : GPool.R lo w r p) (hu : Sl GVal.R 3 lo1 w u roots) :
    Calls Try.prog 24 #[.agg r.toArray, u] w (PpPost w p roots) := by
  have Hp := hp
  have Hu := hu
  obtain ⟨u0, u1, rfl, -, a0, a1⟩ := hp
  have Ha0 := a0
  obtain ⟨pa, pc, rfl⟩ := a0.form
  obtain ⟨qa, qc, rfl⟩ := a1.form
  clear a0 a1
  obtain ⟨ra, rc, rfl⟩ := hu.form
  have n0 := length_le_bulkS (f := GCell.bulk) GCell.bulk_nonneg p.cells
  have n1 := length_nonneg p.free
  have hbulk' := hbulk
  simp only [GPool.bulk] at hbulk'
  have hlen : p.cells.length ≤ 1048576 := by omega
  have c1 := fun W (hW : Below w.heap.size w W) => impl_PoolSweep_c p roots _ _ lo lo1 hbulk hr W (GPool.good.below Hp hW) (Hu.below GVal.good hW)
  by_cases hps : psOk p roots
  · have c2 := fun W (hW : Below w.heap.size w W) => packed_c p.cells roots _ _ lo lo1 (heapIn_of hps.1 hps.2) hlen hr W (Ha0.below GCell.good hW) (Hu.below GVal.good hW)
    have hneg : decide (psN p roots < 0) = false := decide_eq_false (by unfold psN; rw [if_pos hps]; omega)
    replace c1 := Lib.hid c1; replace c2 := Lib.hid c2; replace hps := Lib.hid hps
    clear Ha0 hu Hp Hu hbulk hbulk' n0 n1
    go_enter Try.func24, Try.ntmps24
    go_upto_region 1 with fail
    have B : RowAt (w.alloc (.cells #[.slice pa p.cells.length pc, .slice qa p.free.length qc] 26)) (w.heap.size) 0 [.slice pa p.cells.length pc, .slice qa p.free.length qc] := RowAt.box w #[.slice pa p.cells.length pc, .slice qa p.free.length qc] 26
    have hw : Below w.heap.size w (w.alloc (.cells #[.slice pa p.cells.length pc, .slice qa p.free.length qc] 26)) := by go_grown
    generalize (w.alloc (.cells #[.slice pa p.cells.length pc, .slice qa p.free.length qc] 26)) = w0 at *
    obtain ⟨b_0, b_1⟩ := B.box2; have hsB := World.block_lt_of_cell? _ _ b_0; dsimp only at hsB
    go_wp2_with (first
      | (go_at_call 22; (with_reducible refine (c1.out _ hw).mono ?_); rintro en w5 ⟨q0, q1, rfl, OP, hbk⟩; obtain ⟨xa, xc, rfl⟩ := OP.cells.form; obtain ⟨ya, yc, rfl⟩ := OP.free.form; have hw5 : Below w.heap.size w w5 := hw.trans (hbk.mono hw.size); have B5 := B.below hbk; obtain ⟨b5_0, b5_1⟩ := B5.box2; have hsB5 := World.block_lt_of_cell? _ _ b5_0; dsimp only at hsB5)
      | (go_at_call 62; (with_reducible refine (c2.out _ (by go_grown)).mono ?_); rintro en w6 ⟨v0, v1, rfl, O0, O1, hap, hbk⟩; have hz := hw5.size; have hw6 : Below w.heap.size w w6 := Below.trans (show Below w.heap.size w _ by go_grown) (hbk.mono (by simp; omega))))
    go_returns
    exact pp_yes hps.out (by simp; omega) O0 O1 hap hw6
  · have hneg : decide (psN p roots < 0) = true := decide_eq_true (by unfold psN; rw [if_neg hps]; omega)
    replace c1 := Lib.hid c1; replace hps := Lib.hid hps
    clear Ha0 hu Hp Hu hbulk hbulk' n0 n1
    go_enter Try.func24, Try.ntmps24
    go_upto_region 1 with fail
    have B : RowAt (w.alloc (.cells #[.slice pa p.cells.length pc, .slice qa p.free.length qc] 26)) (w.heap.size) 0 [.slice pa p.cells.length pc, .slice qa p.free.length qc] := RowAt.box w #[.slice pa p.cells.length pc, .slice qa p.free.length qc] 26
    have hw : Below w.heap.size w (w.alloc (.cells #[.slice pa p.cells.length pc, .slice qa p.free.length qc] 26)) := by go_grown
    generalize (w.alloc (.cells #[.slice pa p.cells.length pc, .slice qa p.free.length qc] 26)) = w0 at *
    obtain ⟨b_0, b_1⟩ := B.box2; have hsB := World.block_lt_of_cell? _ _ b_0; dsimp only at hsB
    go_wp2_with (go_at_call 22; (with_reducible refine (c1.out _ hw).mono ?_); rintro en w5 ⟨q0, q1, rfl, OP, hbk⟩; obtain ⟨xa, xc, rfl⟩ := OP.cells.form; obtain ⟨ya, yc, rfl⟩ := OP.free.form; have hw5 : Below w.heap.size w w5 := hw.trans (hbk.mono hw.size))
    go_returns
    have hz5 := hw5.size
    exact pp_no hps.out (Below.alloc hw5 (by omega) _)

end Go.Proofs.Ytajbgkpjmgmdhaa

/- impl.PoolUsed. PoolUsed. -/
namespace Go.Proofs.Ytajbgkpjmgmdhaa
open Go.RowKit
set_option linter.unusedVariables false
set_option linter.unusedSimpArgs false
attribute [local go_sem] Ext.cell

noncomputable def poolUsed (p : GPool) : Int := if poolOk p then (p.cells.length : Int) - p.free.length else -1

set_option maxHeartbeats 1000000 in
theorem impl_PoolUsed_c (p : GPool) (r : List Value) (lo : Nat) (hbulk : p.bulk ≤ 1048576) (w : World) (hp : GPool.R lo w r p) :
    Calls Try.prog 12 #[.agg r.toArray] w fun e w' => e = .returned (.int .i64 (poolUsed p)) ∧ Below w.heap.size w w' := by
  have c1 := fun W (hW : Below w.heap.size w W) => impl_PoolOk_c p r lo hbulk W (GPool.good.below hp hW)
  obtain ⟨u0, u1, rfl, -, a0, a1⟩ := hp
  obtain ⟨pa, pc, rfl⟩ := a0.form
  obtain ⟨qa, qc, rfl⟩ := a1.form
  have n0 := length_le_bulkS (f := GCell.bulk) GCell.bulk_nonneg p.cells
  have n1 := length_nonneg p.free
  have n2 := bulkS_nonneg (f := GCell.bulk) GCell.bulk_nonneg p.cells
  simp only [GPool.bulk] at hbulk
  have m0 : p.cells.length ≤ 1048576 := by omega
  have m1 : p.free.length ≤ 1048576 := by omega
  clear n0 n1 n2 hbulk
  generalize h1 : poolOk p = k1 at *
  replace h1 := Lib.hid h1; replace c1 := Lib.hid c1
  clear a0 a1
  go_enter Try.func12, Try.ntmps12
  go_upto_region 1 with fail
  have B : RowAt (w.alloc (.cells #[.slice pa p.cells.length pc, .slice qa p.free.length qc] 26)) (w.heap.size) 0 [.slice pa p.cells.length pc, .slice qa p.free.length qc] := RowAt.box w #[.slice pa p.cells.length pc, .slice qa p.free.length qc] 26
  have hw : Below w.heap.size w (w.alloc (.cells #[.slice pa p.cells.length pc, .slice qa p.free.length qc] 26)) := by go_grown
  generalize (w.alloc (.cells #[.slice pa p.cells.length pc, .slice qa p.free.length qc] 26)) = w0 at *
  obtain ⟨b_0, b_1⟩ := B.box2; have hsB := World.block_lt_of_cell? _ _ b_0; dsimp only at hsB
  cases k1
  all_goals go_wp2_with (go_at_call 11; ((with_reducible refine (c1.out _ hw).mono ?_); rintro e w1 ⟨rfl, hb⟩; have hw := hw.trans (hb.mono hw.size); have B := B.below hb; obtain ⟨b_0, b_1⟩ := B.box2; have hsB := World.block_lt_of_cell? _ _ b_0; dsimp only at hsB; clear hb))
  all_goals (go_returns; refine ⟨?_, by first | assumption | go_grown⟩; (try clear hc hf); replace h1 := h1.out; first | rfl | (simp_all [poolUsed]; done) | (simp_all [poolUsed] <;> (first | omega | grind)))

end Go.Proofs.Ytajbgkpjmgmdhaa

/- What a sweep keeps, in plain Lean: the swept pool is right, and packs to the same cells and values. No program is named here. -/
namespace Go.Proofs.Ytajbgkpjmgmdhaa
open Go.RowKit
set_option linter.unusedVariables false
set_option linter.unusedSimpArgs false

/-- The place i goes. -/
def gone (p : GPool) (lv : List Bool) (i : Nat) : Bool := decide (lv[i]? = some false) && !p.free.contains (i : Int)
def goneL (p : GPool) (lv : List Bool) (k : Nat) : List Nat := (List.range k).filter (gone p lv)
theorem goneL_mem {p : GPool} {lv : List Bool} {k i : Nat} : i ∈ goneL p lv k ↔ i < k ∧ gone p lv i = true := by
  unfold goneL; rw [List.mem_filter, List.mem_range]
theorem goneL_succ (p : GPool) (lv : List Bool) (k : Nat) : goneL p lv (k + 1) = if gone p lv k = true then goneL p lv k ++ [k] else goneL p lv k := by
  unfold goneL
  rw [List.range_succ, List.filter_append]
  split
  · rename_i h; rw [List.filter_cons_of_pos h]; rfl
  · rename_i h; rw [List.filter_cons_of_neg h]; simp
theorem swp_all (p : GPool) (lv : List Bool) (k : Nat) (hk : k ≤ p.cells.length) :
    (∀ i, (swp p lv k).1.cells[i]? = if i ∈ goneL p lv k then some zeroC else p.cells[i]?) ∧ (swp p lv k).1.free = p.free ++ (goneL p lv k).map Int.ofNat ∧ (swp p lv k).2 = (goneL p lv k).length := by
  induction k with
  | zero => simp [swp, goneL]
  | succ k ih =>
    obtain ⟨h1, h2, h3⟩ := ih (by omega)
    have hl := (swp_len p lv k).1
    rw [goneL_succ]
    by_cases hg : gone p lv k = true
    · have hg' : lv[k]? = some false ∧ p.free.contains (k : Int) = false := by
        unfold gone at hg
        simpa using hg
      rw [swp_yes hg'.1 hg'.2, if_pos hg]
      refine ⟨fun i => ?_, ?_, ?_⟩
      · show ((swp p lv k).1.cells.set k zeroC)[i]? = _
        by_cases e : k = i
        · subst e
          rw [List.getElem?_set_self (by omega), if_pos (by simp)]
        · rw [List.getElem?_set_ne e, h1]
          have : i ∈ goneL p lv k ++ [k] ↔ i ∈ goneL p lv k := by
            rw [List.mem_append, List.mem_singleton]
            exact ⟨fun h => h.resolve_right (fun h => e h.symm), .inl⟩
          by_cases hm : i ∈ goneL p lv k
          · rw [if_pos hm, if_pos (this.2 hm)]
          · rw [if_neg hm, if_neg (fun h => hm (this.1 h))]
      · show (swp p lv k).1.free ++ [(k : Int)] = _
        rw [h2, List.map_append, List.append_assoc]; rfl
      · show (swp p lv k).2 + 1 = _
        rw [h3]; simp
    · rw [if_neg hg, swp_no (fun h => hg (by unfold gone; simp [h.1, h.2]; simpa using h.2))]
      exact ⟨h1, h2, h3⟩

/-- Of three ways each place goes one. -/
theorem count_three {α : Type} (a b c : α → Bool) (l : List α) (h : ∀ x ∈ l, (a x = true ∧ b x = false ∧ c x = false) ∨ (a x = false ∧ b x = true ∧ c x = false) ∨ (a x = false ∧ b x = false ∧ c x = true)) :
    l.countP a + l.countP b + l.countP c = l.length := by
  induction l with
  | nil => rfl
  | cons x t ih =>
    have := ih (fun y hy => h y (List.mem_cons_of_mem _ hy))
    simp only [List.countP_cons, List.length_cons]
    rcases h x (List.mem_cons_self ..) with ⟨h1, h2, h3⟩ | ⟨h1, h2, h3⟩ | ⟨h1, h2, h3⟩ <;> simp only [h1, h2, h3] <;> simp <;> omega
theorem nodup_of {l : List Int} (h : ∀ (i : Nat) f, l[i]? = some f → f ∉ l.take i) : l.Nodup := by
  rw [List.nodup_iff_pairwise_ne, List.pairwise_iff_getElem]
  intro i j hi hj hij e
  refine h j _ (List.getElem?_eq_getElem hj) ?_
  rw [← e]
  exact List.mem_of_getElem? (i := i) (by rw [List.getElem?_take, if_pos hij, List.getElem?_eq_getElem hi])
theorem of_nodup {l : List Int} (h : l.Nodup) (i : Nat) (f : Int) (hf : l[i]? = some f) : f ∉ l.take i := by
  intro hm
  obtain ⟨j, hj, e⟩ := List.getElem_of_mem hm
  rw [List.nodup_iff_pairwise_ne, List.pairwise_iff_getElem] at h
  have hi := (List.getElem?_eq_some_iff.1 hf).1
  rw [List.length_take] at hj
  have hji : j < l.length := by omega
  refine h j i hji hi (by omega) ?_
  rw [List.getElem_take] at e
  rw [e]; exact ((List.getElem?_eq_some_iff.1 hf).2).symm
theorem free_nodup {p : GPool} (h : FreeOk p p.free.length) : p.free.Nodup := nodup_of fun i f hf => by
  obtain ⟨j, _, _, h3, _⟩ := h i f (List.getElem?_eq_some_iff.1 hf).1 hf
  exact h3
theorem free_count {p : GPool} (h : FreeOk p p.free.length) : (List.range p.cells.length).countP (fun i : Nat => p.free.contains (i : Int)) = p.free.length := by
  rw [List.countP_eq_length_filter]
  have e : (((List.range p.cells.length).filter (fun i : Nat => p.free.contains (i : Int))).map Int.ofNat).Perm p.free := by
    refine (List.perm_ext_iff_of_nodup ?_ (free_nodup h)).2 fun x => ?_
    · refine List.Pairwise.map _ (fun a b hab => ?_) (List.Pairwise.filter _ List.nodup_range)
      intro e; exact hab (Int.ofNat.inj e)
    · rw [List.mem_map]
      constructor
      · rintro ⟨i, hi, rfl⟩
        have := (List.mem_filter.1 hi).2
        rw [List.contains_eq_mem] at this
        exact of_decide_eq_true this
      · intro hx
        obtain ⟨i, hi, e⟩ := List.getElem_of_mem hx
        obtain ⟨j, e1, hj, _⟩ := h i x hi (by rw [← e]; exact List.getElem?_eq_getElem hi)
        refine ⟨j, List.mem_filter.2 ⟨List.mem_range.2 hj, ?_⟩, e1.symm⟩
        rw [List.contains_eq_mem, ← e1]; exact decide_eq_true hx
  have := e.length_eq
  rwa [List.length_map] at this

/-- What one comes to is not free. -/
theorem live_not_free {p : GPool} {roots : List GVal} (h : psOk p roots) : ∀ {i : Nat}, Rch p.cells roots i → (i : Int) ∉ p.free ∧ ∀ c, p.cells[i]? = some c → poolFits p c = true := by
  have h' : PoolOk p := by have := h.1; unfold poolOk at this; simpa using this
  have hh : ∀ (v : GVal) (k : Nat), poolHolds p v = true → v.kind = 6 → v.n = (k : Int) → (k : Int) ∉ p.free := fun v k hv h6 hk => by
    unfold poolHolds at hv
    simp [h6, hk] at hv
    exact hv.2
  have hz : ∀ v : GVal, zeroVal v = true → v.kind ≠ 6 := fun v hv h6 => by unfold zeroVal at hv; simp [h6] at hv
  have fin : ∀ {i : Nat}, (i : Int) ∉ p.free → (i : Int) ∉ p.free ∧ ∀ c, p.cells[i]? = some c → poolFits p c = true := fun {i} hi =>
    ⟨hi, fun c hc => (h'.2.2.2 i c (List.getElem?_eq_some_iff.1 hc).1 hc).resolve_left hi⟩
  intro i hi
  induction hi with
  | root hv h6 hk => exact fin (hh _ _ (List.all_eq_true.1 h.2 _ hv) h6 hk)
  | left _ hc h6 hk ih =>
    have := ih.2 _ hc
    unfold poolFits at this
    simp only [Bool.and_eq_true] at this
    exact fin (hh _ _ this.1.2 h6 hk)
  | right _ hc h6 hk ih =>
    have := ih.2 _ hc
    unfold poolFits at this
    simp only [Bool.and_eq_true, Bool.or_eq_true] at this
    exact fin (hh _ _ (this.2.resolve_left (fun hb => hz _ hb h6)) h6 hk)

/-- The same order from heaps that agree at what one comes to. -/
theorem bfsP_same {h g : List GCell} {roots : List GVal} (H : HeapIn h roots) (hg : ∀ i, Rch h roots i → g[i]? = h[i]?) : ∀ (f k : Nat) (s : BfsS), BLoop h roots k s → bfsP g f k s = bfsP h f k s := by
  intro f
  induction f with
  | zero => intros; rfl
  | succ f ih =>
    intro k s B
    unfold bfsP
    by_cases hk : k < s.1.length
    · obtain ⟨j, c, e1, e2, e3, e4⟩ := B.get hk
      rw [e1]
      simp only [Int.toNat_natCast]
      rw [hg j e4, e3]
      exact ih _ _ (B.step H e1 e3 e4)
    · rw [List.getElem?_eq_none (by omega)]
theorem copiedP_same {h g : List GCell} {roots : List GVal} (H : HeapIn h roots) (hl : g.length = h.length) (hg : ∀ i, Rch h roots i → g[i]? = h[i]?) : copiedP g roots = copiedP h roots := by
  have hR : ∀ k, k ≤ roots.length → ∃ s, RLoop h roots k s := by
    intro k
    induction k with
    | zero => exact fun _ => ⟨_, RLoop.zero h roots⟩
    | succ k ih =>
      intro hk
      obtain ⟨s, L⟩ := ih (by omega)
      exact ⟨_, L.step H (List.getElem?_eq_getElem (show k < roots.length by omega))⟩
  obtain ⟨s, L⟩ := hR _ (Nat.le_refl _)
  have es : s = startP h.length roots := by rw [L.eq, List.take_length]; rfl
  unfold copiedP
  rw [hl, ← es]
  exact bfsP_same H hg _ _ _ (L.done rfl)
theorem packed_same {h g : List GCell} {roots : List GVal} (H : HeapIn h roots) (hl : g.length = h.length) (hg : ∀ i, Rch h roots i → g[i]? = h[i]?) : packedC g roots = packedC h roots ∧ packedV g roots = packedV h roots := by
  have e := copiedP_same H hl hg
  unfold packedC packedV
  rw [e]
  refine ⟨List.map_congr_left fun x hx => ?_, rfl⟩
  obtain ⟨j, rfl, _, hj⟩ := (bloop_all H).inv.ord x hx
  rw [Int.toNat_natCast, List.getD_eq_getElem?_getD, List.getD_eq_getElem?_getD, hg j hj]

structure Swept (p : GPool) (roots : List GVal) (q : GPool) (n : Nat) : Prop where
  ok : psOk q roots
  cells : packedC q.cells roots = packedC p.cells roots
  vals : packedV q.cells roots = packedV p.cells roots
  used : poolUsed q = (packedC p.cells roots).length
  was : poolUsed p = (packedC p.cells roots).length + n
theorem zeroC_zero : zeroCell zeroC = true := by simp [zeroCell, zeroC, zeroVal, ByteArray.toList_eq]
theorem ps_swept {p : GPool} {roots : List GVal} (h : psOk p roots) : Swept p roots (psPool p roots) (swp p (psLive p roots) p.cells.length).2 := by
  have hP : PoolOk p := by have := h.1; unfold poolOk at this; simpa using this
  have H := heapIn_of h.1 h.2
  have B := bloop_all H
  have hps : psPool p roots = (swp p (psLive p roots) p.cells.length).1 := by unfold psPool; rw [if_pos h]
  obtain ⟨hc, hf, hn⟩ := swp_all p (psLive p roots) p.cells.length (Nat.le_refl _)
  have hl := (swp_len p (psLive p roots) p.cells.length).1
  rw [hps, hn]
  generalize hq : (swp p (psLive p roots) p.cells.length).1 = q at *
  generalize hgl : goneL p (psLive p roots) p.cells.length = gl at *
  have hat : ∀ i, i < p.cells.length → ∃ x, (copiedP p.cells roots).2[i]? = some x ∧ (psLive p roots)[i]? = some (decide (0 ≤ x)) ∧ (0 ≤ x ↔ Rch p.cells roots i) := fun i hi => by
    have hi' : i < (copiedP p.cells roots).2.length := by rw [B.inv.len]; exact hi
    refine ⟨_, List.getElem?_eq_getElem hi', ?_, B.live H rfl (List.getElem?_eq_getElem hi')⟩
    unfold psLive
    rw [List.getElem?_map, List.getElem?_eq_getElem hi']; rfl
  have hgm : ∀ i, i ∈ gl ↔ i < p.cells.length ∧ ¬ Rch p.cells roots i ∧ (i : Int) ∉ p.free := fun i => by
    rw [← hgl, goneL_mem]
    refine and_congr_right fun hi => ?_
    obtain ⟨x, e1, e2, e3⟩ := hat i hi
    unfold gone
    rw [e2, ← e3]
    simp
  have hrl : ∀ i, Rch p.cells roots i → i < p.cells.length := fun i hi => by
    induction hi with
    | root hv h6 hk => obtain ⟨k, e, hk'⟩ := H.roots _ hv h6; omega
    | left _ hc h6 hk _ => obtain ⟨k, e, hk'⟩ := (H.cells _ (List.mem_of_getElem? hc)).1 h6; omega
    | right _ hc h6 hk _ => obtain ⟨k, e, hk'⟩ := (H.cells _ (List.mem_of_getElem? hc)).2 h6; omega
  have hsame : ∀ i, Rch p.cells roots i → q.cells[i]? = p.cells[i]? := fun i hi => by rw [hc, if_neg (fun hm => ((hgm i).1 hm).2.1 hi)]
  have hqf : ∀ x, x ∈ q.free ↔ x ∈ p.free ∨ ∃ i ∈ gl, x = (i : Int) := fun x => by
    rw [hf, List.mem_append, List.mem_map]
    exact or_congr_right ⟨fun ⟨i, h1, h2⟩ => ⟨i, h1, h2.symm⟩, fun ⟨i, h1, h2⟩ => ⟨i, h1, h2.symm⟩⟩
  have hlive : ∀ i : Nat, Rch p.cells roots i → (i : Int) ∉ q.free := fun i hi hm => by
    rcases (hqf _).1 hm with h1 | ⟨j, h1, h2⟩
    · exact (live_not_free h hi).1 h1
    · obtain rfl : i = j := by omega
      exact ((hgm i).1 h1).2.1 hi
  have hnd : q.free.Nodup := by
    rw [hf, List.nodup_append]
    refine ⟨free_nodup hP.2.2.1, ?_, fun x hx y hy e => ?_⟩
    · rw [← hgl]
      refine List.Pairwise.map _ (fun a b hab => ?_) (List.Pairwise.filter _ List.nodup_range)
      intro e; exact hab (Int.ofNat.inj e)
    · subst e
      obtain ⟨i, h1, rfl⟩ := List.mem_map.1 hy
      exact ((hgm i).1 h1).2.2 hx
  have hFq : FreeOk q q.free.length := fun i f hi hfi => by
    rcases (hqf _).1 (List.mem_of_getElem? hfi) with h1 | ⟨j, h1, h2⟩
    · obtain ⟨k, hk, e⟩ := List.getElem_of_mem h1
      obtain ⟨j, e1, h2, _, c, h3, h4⟩ := hP.2.2.1 k f hk (by rw [← e]; exact List.getElem?_eq_getElem hk)
      refine ⟨j, e1, by omega, of_nodup hnd _ _ hfi, c, ?_, h4⟩
      rw [hc, if_neg (fun hm => ((hgm j).1 hm).2.2 (e1 ▸ h1))]; exact h3
    · have := ((hgm j).1 h1).1
      exact ⟨j, h2, by omega, of_nodup hnd _ _ hfi, zeroC, by rw [hc, if_pos h1], zeroC_zero⟩
  have hholds : ∀ v : GVal, poolHolds p v = true → (v.kind = 6 → ∀ k : Nat, v.n = (k : Int) → Rch p.cells roots k) → poolHolds q v = true := fun v hv hr => by
    unfold poolHolds at hv ⊢
    rw [hl]
    rw [Bool.and_eq_true, Bool.or_eq_true] at hv ⊢
    refine ⟨hv.1, ?_⟩
    by_cases h6 : v.kind = 6
    · right
      obtain ⟨k, e, hk⟩ := valOk_cell hv.1 h6
      rw [e]
      simpa using hlive k (hr h6 k e)
    · left; simpa using h6
  have hroots : roots.all (poolHolds q) = true := List.all_eq_true.2 fun v hv => hholds v (List.all_eq_true.1 h.2 v hv) fun h6 k e => .root hv h6 e
  have hcount : (List.range p.cells.length).countP (fun i : Nat => p.free.contains (i : Int)) + (List.range p.cells.length).countP (gone p (psLive p roots)) + (List.range p.cells.length).countP (fun i => decide ((psLive p roots)[i]? = some true)) = p.cells.length := by
    have := count_three (fun i : Nat => p.free.contains (i : Int)) (gone p (psLive p roots)) (fun i => decide ((psLive p roots)[i]? = some true)) (List.range p.cells.length) fun i hi => by
      have hi' := List.mem_range.1 hi
      obtain ⟨x, e1, e2, e3⟩ := hat i hi'
      unfold gone
      rw [e2]
      by_cases hx : 0 ≤ x
      · have := (live_not_free h (e3.1 hx)).1
        right; right
        simp [hx, this]
      · by_cases hm : (i : Int) ∈ p.free
        · left; simp [hx, hm]
        · right; left; simp [hx, hm]
    rwa [List.length_range] at this
  rw [free_count hP.2.2.1] at hcount
  have hcg : (List.range p.cells.length).countP (gone p (psLive p roots)) = gl.length := by rw [← hgl, List.countP_eq_length_filter]; rfl
  have hcl : (List.range p.cells.length).countP (fun i => decide ((psLive p roots)[i]? = some true)) = (packedC p.cells roots).length := by
    have e1 : (packedC p.cells roots).length = (copiedP p.cells roots).1.length := by unfold packedC; rw [List.length_map]
    rw [e1, ← B.inv.cnt]
    have e2 : ∀ (l : List Int), (List.range l.length).countP (fun i => decide ((l.map fun x => decide (0 ≤ x))[i]? = some true)) = l.countP (fun x => decide (0 ≤ x)) := fun l => by
      induction l with
      | nil => rfl
      | cons x t ih =>
        rw [List.length_cons, List.range_succ_eq_map, List.countP_cons, List.countP_cons, List.countP_map, ← ih]
        congr 1
        · simp
    have := e2 (copiedP p.cells roots).2
    rw [B.inv.len] at this
    exact this
  rw [hcg, hcl] at hcount
  have hfl : q.free.length = p.free.length + gl.length := by rw [hf, List.length_append, List.length_map]
  have hok : poolOk q = true := poolOk_yes ⟨by rw [hl]; exact hP.1, by rw [hl, hfl]; omega, hFq, fun i c hi hci => by
    by_cases hm : i ∈ gl
    · exact .inl ((hqf _).2 (.inr ⟨i, hm, rfl⟩))
    · rw [hc, if_neg hm] at hci
      rcases hP.2.2.2 i c (by omega) hci with h1 | h1
      · exact .inl ((hqf _).2 (.inl h1))
      · by_cases hif : (i : Int) ∈ p.free
        · exact .inl ((hqf _).2 (.inl hif))
        · have hR : Rch p.cells roots i := Classical.byContradiction fun hn => hm ((hgm i).2 ⟨by omega, hn, hif⟩)
          right
          unfold poolFits at h1 ⊢
          rw [hl]
          simp only [Bool.and_eq_true, Bool.or_eq_true] at h1 ⊢
          exact ⟨⟨h1.1.1, hholds _ h1.1.2 fun h6 k e => .left hR hci h6 e⟩, h1.2.imp id fun hb => hholds _ hb fun h6 k e => .right hR hci h6 e⟩⟩
  obtain ⟨hpc, hpv⟩ := packed_same H hl hsame
  refine ⟨⟨hok, hroots⟩, hpc, hpv, ?_, ?_⟩
  · unfold poolUsed; rw [if_pos hok, hl, hfl]; omega
  · unfold poolUsed; rw [if_pos h.1]; omega
end Go.Proofs.Ytajbgkpjmgmdhaa
