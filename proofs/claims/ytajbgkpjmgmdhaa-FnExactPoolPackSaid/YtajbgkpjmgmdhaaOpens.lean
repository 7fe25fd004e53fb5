/- How the laws' arguments open. Printed by gen_open.py. -/
import Derived.Test.YtajbgkpjmgmdhaaRows
import Derived.Test.YtajbgkpjmgmdhaaOpen
namespace Go.Proofs.Ytajbgkpjmgmdhaa
open Go.RowKit
set_option linter.unusedVariables false
set_option linter.unusedSimpArgs false

theorem opens_int_ : Opens Try.prog 3 IntR := opens_int Try.underlying3
theorem cells_int : Try.prog.cellsOf 3 = 1 := by kernel_rfl

theorem opens_str_ : Opens Try.prog 9 StrR := opens_string Try.underlying9
theorem cells_str : Try.prog.cellsOf 9 = 1 := by kernel_rfl

theorem cells_Val : Try.prog.cellsOf 42 = 3 := by kernel_rfl
theorem opens_Val : Opens Try.prog 42 GVal.R := by
  intro H enc w spare held fuel cs x h
  obtain ⟨xs, n, rfl, _, hl, hxl, hf⟩ := DataW.trod_struct Try.underlying42 h
  rw [cells_Val] at hl
  obtain ⟨c0, c1, c2, rfl⟩ := list_len3 hl
  have h0 : DataW.trod enc Try.prog w 0 spare held n 3 (List.take (Try.prog.cellsOf 3) (List.drop 0 [c0, c1, c2])) = xs[0]? := hf 0 _ rfl
  rw [cells_int, List.getElem?_eq_getElem (by rw [hxl]; decide)] at h0
  have h1 : DataW.trod enc Try.prog w 0 spare held n 3 (List.take (Try.prog.cellsOf 3) (List.drop 1 [c0, c1, c2])) = xs[1]? := hf 1 _ rfl
  rw [cells_int, List.getElem?_eq_getElem (by rw [hxl]; decide)] at h1
  have h2 : DataW.trod enc Try.prog w 0 spare held n 9 (List.take (Try.prog.cellsOf 9) (List.drop 2 [c0, c1, c2])) = xs[2]? := hf 2 _ rfl
  rw [cells_str, List.getElem?_eq_getElem (by rw [hxl]; decide)] at h2
  obtain ⟨z0, e0, w0⟩ := opens_int_ _ _ _ _ _ _ _ _ h0
  simp only [List.drop_zero, List.drop_succ_cons, List.take_succ_cons, List.take_zero, List.cons.injEq, and_true] at e0
  obtain rfl := e0
  obtain ⟨z1, e1, w1⟩ := opens_int_ _ _ _ _ _ _ _ _ h1
  simp only [List.drop_zero, List.drop_succ_cons, List.take_succ_cons, List.take_zero, List.cons.injEq, and_true] at e1
  obtain rfl := e1
  obtain ⟨z2, e2, w2⟩ := opens_str_ _ _ _ _ _ _ _ _ h2
  simp only [List.drop_zero, List.drop_succ_cons, List.take_succ_cons, List.take_zero, List.cons.injEq, and_true] at e2
  obtain rfl := e2
  exact ⟨⟨z0, z1, z2⟩, rfl, ⟨w0, w1, w2⟩⟩

theorem cells_Cell : Try.prog.cellsOf 44 = 9 := by kernel_rfl
theorem opens_Cell : Opens Try.prog 44 GCell.R := by
  intro H enc w spare held fuel cs x h
  obtain ⟨xs, n, rfl, _, hl, hxl, hf⟩ := DataW.trod_struct Try.underlying44 h
  rw [cells_Cell] at hl
  obtain ⟨c0, c1, c2, c3, c4, c5, c6, c7, c8, rfl⟩ := list_len9 hl
  have h0 : DataW.trod enc Try.prog w 0 spare held n 3 (List.take (Try.prog.cellsOf 3) (List.drop 0 [c0, c1, c2, c3, c4, c5, c6, c7, c8])) = xs[0]? := hf 0 _ rfl
  rw [cells_int, List.getElem?_eq_getElem (by rw [hxl]; decide)] at h0
  have h1 : DataW.trod enc Try.prog w 0 spare held n 3 (List.take (Try.prog.cellsOf 3) (List.drop 1 [c0, c1, c2, c3, c4, c5, c6, c7, c8])) = xs[1]? := hf 1 _ rfl
  rw [cells_int, List.getElem?_eq_getElem (by rw [hxl]; decide)] at h1
  have h2 : DataW.trod enc Try.prog w 0 spare held n 9 (List.take (Try.prog.cellsOf 9) (List.drop 2 [c0, c1, c2, c3, c4, c5, c6, c7, c8])) = xs[2]? := hf 2 _ rfl
  rw [cells_str, List.getElem?_eq_getElem (by rw [hxl]; decide)] at h2
  have h3 : DataW.trod enc Try.prog w 0 spare held n 42 (List.take (Try.prog.cellsOf 42) (List.drop 3 [c0, c1, c2, c3, c4, c5, c6, c7, c8])) = xs[3]? := hf 3 _ rfl
  rw [cells_Val, List.getElem?_eq_getElem (by rw [hxl]; decide)] at h3
  have h4 : DataW.trod enc Try.prog w 0 spare held n 42 (List.take (Try.prog.cellsOf 42) (List.drop 6 [c0, c1, c2, c3, c4, c5, c6, c7, c8])) = xs[4]? := hf 4 _ rfl
  rw [cells_Val, List.getElem?_eq_getElem (by rw [hxl]; decide)] at h4
  obtain ⟨z0, e0, w0⟩ := opens_int_ _ _ _ _ _ _ _ _ h0
  simp only [List.drop_zero, List.drop_succ_cons, List.take_succ_cons, List.take_zero, List.cons.injEq, and_true] at e0
  obtain rfl := e0
  obtain ⟨z1, e1, w1⟩ := opens_int_ _ _ _ _ _ _ _ _ h1
  simp only [List.drop_zero, List.drop_succ_cons, List.take_succ_cons, List.take_zero, List.cons.injEq, and_true] at e1
  obtain rfl := e1
  obtain ⟨z2, e2, w2⟩ := opens_str_ _ _ _ _ _ _ _ _ h2
  simp only [List.drop_zero, List.drop_succ_cons, List.take_succ_cons, List.take_zero, List.cons.injEq, and_true] at e2
  obtain rfl := e2
  obtain ⟨z3, e3, w3⟩ := opens_Val _ _ _ _ _ _ _ _ h3
  unfold GVal.wf at w3
  simp only [List.drop_zero, List.drop_succ_cons, List.take_succ_cons, List.take_zero, List.cons.injEq, and_true] at e3
  obtain ⟨rfl, rfl, rfl⟩ := e3
  obtain ⟨z4, e4, w4⟩ := opens_Val _ _ _ _ _ _ _ _ h4
  unfold GVal.wf at w4
  simp only [List.drop_zero, List.drop_succ_cons, List.take_succ_cons, List.take_zero, List.cons.injEq, and_true] at e4
  obtain ⟨rfl, rfl, rfl⟩ := e4
  exact ⟨⟨z0, z1, z2, z3, z4⟩, rfl, ⟨w0, w1, w2, w3.1, w3.2.1, w3.2.2, w4.1, w4.2.1, w4.2.2⟩⟩

theorem cells_S_Cell : Try.prog.cellsOf 39 = 1 := by kernel_rfl
theorem opens_S_Cell : Opens Try.prog 39 (SlR GCell.R 9) := opens_slice Try.underlying39 cells_Cell (by decide) opens_Cell

theorem cells_S_int : Try.prog.cellsOf 24 = 1 := by kernel_rfl
theorem opens_S_int : Opens Try.prog 24 (SlR IntR 1) := opens_slice Try.underlying24 cells_int (by decide) opens_int_

theorem cells_Pool : Try.prog.cellsOf 41 = 2 := by kernel_rfl
theorem opens_Pool : Opens Try.prog 41 GPool.R := by
  intro H enc w spare held fuel cs x h
  obtain ⟨xs, n, rfl, _, hl, hxl, hf⟩ := DataW.trod_struct Try.underlying41 h
  rw [cells_Pool] at hl
  obtain ⟨c0, c1, rfl⟩ := list_len2 hl
  have h0 : DataW.trod enc Try.prog w 0 spare held n 39 (List.take (Try.prog.cellsOf 39) (List.drop 0 [c0, c1])) = xs[0]? := hf 0 _ rfl
  rw [cells_S_Cell, List.getElem?_eq_getElem (by rw [hxl]; decide)] at h0
  have h1 : DataW.trod enc Try.prog w 0 spare held n 24 (List.take (Try.prog.cellsOf 24) (List.drop 1 [c0, c1])) = xs[1]? := hf 1 _ rfl
  rw [cells_S_int, List.getElem?_eq_getElem (by rw [hxl]; decide)] at h1
  obtain ⟨z0, v0, e0, s0⟩ := opens_S_Cell _ _ _ _ _ _ _ _ h0
  simp only [List.drop_zero, List.drop_succ_cons, List.take_succ_cons, List.take_zero, List.cons.injEq, and_true] at e0
  obtain rfl := e0
  obtain ⟨z1, v1, e1, s1⟩ := opens_S_int _ _ _ _ _ _ _ _ h1
  simp only [List.drop_zero, List.drop_succ_cons, List.take_succ_cons, List.take_zero, List.cons.injEq, and_true] at e1
  obtain rfl := e1
  exact ⟨⟨z0, z1⟩, _, _, rfl, trivial, s0, s1⟩

theorem cells_S_str : Try.prog.cellsOf 103 = 1 := by kernel_rfl
theorem opens_S_str : Opens Try.prog 103 (SlR StrR 1) := opens_slice Try.underlying103 cells_str (by decide) opens_str_

theorem cells_S_Val : Try.prog.cellsOf 60 = 1 := by kernel_rfl
theorem opens_S_Val : Opens Try.prog 60 (SlR GVal.R 3) := opens_slice Try.underlying60 cells_Val (by decide) opens_Val

end Go.Proofs.Ytajbgkpjmgmdhaa