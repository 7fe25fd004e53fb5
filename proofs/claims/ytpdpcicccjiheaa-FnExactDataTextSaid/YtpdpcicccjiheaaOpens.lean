/- How the laws' arguments open. Printed by gen_open.py. -/
import Derived.Test.YtpdpcicccjiheaaRows
import Derived.Test.YtpdpcicccjiheaaOpen
namespace Go.Proofs.Ytpdpcicccjiheaa
open Go.RowKit
set_option linter.unusedVariables false
set_option linter.unusedSimpArgs false

theorem opens_int_ : Opens Try.prog 3 IntR := opens_int Try.underlying3
theorem cells_int : Try.prog.cellsOf 3 = 1 := by kernel_rfl

theorem opens_str_ : Opens Try.prog 9 StrR := opens_string Try.underlying9
theorem cells_str : Try.prog.cellsOf 9 = 1 := by kernel_rfl

theorem cells_Val : Try.prog.cellsOf 48 = 3 := by kernel_rfl
theorem opens_Val : Opens Try.prog 48 GVal.R := by
  intro H enc w spare held fuel cs x h
  obtain ⟨xs, n, rfl, _, hl, hxl, hf⟩ := DataW.trod_struct Try.underlying48 h
  rw [cells_Val] at hl
  obtain ⟨c0, c1, c2, rfl⟩ := list_len3 hl
  have h0 : DataW.trod enc Try.prog w 0 spare held n 3 (List.take (Try.prog.cellsOf 3) (List.drop 0 [c0, c1, c2])) = xs[0]? := hf 0 _ rfl
  rw [cells_int, List.getElem?_eq_getElem (by rw [hxl]; decide)] at h0
  have h1 : DataW.trod enc Try.prog w 0 spare held n 3 (List.take (Try.prog.cellsOf 3) (List.drop 1 [c0, c1, c2])) = xs[1]? := hf 1 _ rfl
  rw [cells_int, List.getElem?_eq_getElem (by rw [hxl]; decide)] at h1
  have h2 : DataW.trod enc Try.prog w 0 spare held n 9 (List.take (Try.prog.cellsOf 9) (List.drop 2 [c0, c1, c2])) = xs[2]? := hf 2 _ rfl
  rw [cells_str, List.getElem?_eq_getElem (by rw [hxl]; decide)] at h2
  obtain ⟨z0, e0, w0⟩ := opens_int_ _ _ _ _ _ _ _ _ h0
  simp only [List.drop_zero, List.drop_succ_cons, List.take_succ_cons, List.take_zero, List.cons.injEq, and_true] at e0
  obtain rfl := e0
  obtain ⟨z1, e1, w1⟩ := opens_int_ _ _ _ _ _ _ _ _ h1
  simp only [List.drop_zero, List.drop_succ_cons, List.take_succ_cons, List.take_zero, List.cons.injEq, and_true] at e1
  obtain rfl := e1
  obtain ⟨z2, e2, w2⟩ := opens_str_ _ _ _ _ _ _ _ _ h2
  simp only [List.drop_zero, List.drop_succ_cons, List.take_succ_cons, List.take_zero, List.cons.injEq, and_true] at e2
  obtain rfl := e2
  exact ⟨⟨z0, z1, z2⟩, rfl, ⟨w0, w1, w2⟩⟩

theorem cells_Cell : Try.prog.cellsOf 50 = 9 := by kernel_rfl
theorem opens_Cell : Opens Try.prog 50 GCell.R := by
  intro H enc w spare held fuel cs x h
  obtain ⟨xs, n, rfl, _, hl, hxl, hf⟩ := DataW.trod_struct Try.underlying50 h
  rw [cells_Cell] at hl
  obtain ⟨c0, c1, c2, c3, c4, c5, c6, c7, c8, rfl⟩ := list_len9 hl
  have h0 : DataW.trod enc Try.prog w 0 spare held n 3 (List.take (Try.prog.cellsOf 3) (List.drop 0 [c0, c1, c2, c3, c4, c5, c6, c7, c8])) = xs[0]? := hf 0 _ rfl
  rw [cells_int, List.getElem?_eq_getElem (by rw [hxl]; decide)] at h0
  have h1 : DataW.trod enc Try.prog w 0 spare held n 3 (List.take (Try.prog.cellsOf 3) (List.drop 1 [c0, c1, c2, c3, c4, c5, c6, c7, c8])) = xs[1]? := hf 1 _ rfl
  rw [cells_int, List.getElem?_eq_getElem (by rw [hxl]; decide)] at h1
  have h2 : DataW.trod enc Try.prog w 0 spare held n 9 (List.take (Try.prog.cellsOf 9) (List.drop 2 [c0, c1, c2, c3, c4, c5, c6, c7, c8])) = xs[2]? := hf 2 _ rfl
  rw [cells_str, List.getElem?_eq_getElem (by rw [hxl]; decide)] at h2
  have h3 : DataW.trod enc Try.prog w 0 spare held n 48 (List.take (Try.prog.cellsOf 48) (List.drop 3 [c0, c1, c2, c3, c4, c5, c6, c7, c8])) = xs[3]? := hf 3 _ rfl
  rw [cells_Val, List.getElem?_eq_getElem (by rw [hxl]; decide)] at h3
  have h4 : DataW.trod enc Try.prog w 0 spare held n 48 (List.take (Try.prog.cellsOf 48) (List.drop 6 [c0, c1, c2, c3, c4, c5, c6, c7, c8])) = xs[4]? := hf 4 _ rfl
  rw [cells_Val, List.getElem?_eq_getElem (by rw [hxl]; decide)] at h4
  obtain ⟨z0, e0, w0⟩ := opens_int_ _ _ _ _ _ _ _ _ h0
  simp only [List.drop_zero, List.drop_succ_cons, List.take_succ_cons, List.take_zero, List.cons.injEq, and_true] at e0
  obtain rfl := e0
  obtain ⟨z1, e1, w1⟩ := opens_int_ _ _ _ _ _ _ _ _ h1
  simp only [List.drop_zero, List.drop_succ_cons, List.take_succ_cons, List.take_zero, List.cons.injEq, and_true] at e1
  obtain rfl := e1
  obtain ⟨z2, e2, w2⟩ := opens_str_ _ _ _ _ _ _ _ _ h2
  simp only [List.drop_zero, List.drop_succ_cons, List.take_succ_cons, List.take_zero, List.cons.injEq, and_true] at e2
  obtain rfl := e2
  obtain ⟨z3, e3, w3⟩ := opens_Val _ _ _ _ _ _ _ _ h3
  unfold GVal.wf at w3
  simp only [List.drop_zero, List.drop_succ_cons, List.take_succ_cons, List.take_zero, List.cons.injEq, and_true] at e3
  obtain ⟨rfl, rfl, rfl⟩ := e3
  obtain ⟨z4, e4, w4⟩ := opens_Val _ _ _ _ _ _ _ _ h4
  unfold GVal.wf at w4
  simp only [List.drop_zero, List.drop_succ_cons, List.take_succ_cons, List.take_zero, List.cons.injEq, and_true] at e4
  obtain ⟨rfl, rfl, rfl⟩ := e4
  exact ⟨⟨z0, z1, z2, z3, z4⟩, rfl, ⟨w0, w1, w2, w3.1, w3.2.1, w3.2.2, w4.1, w4.2.1, w4.2.2⟩⟩

theorem cells_S_Cell : Try.prog.cellsOf 44 = 1 := by kernel_rfl
theorem opens_S_Cell : Opens Try.prog 44 (SlR GCell.R 9) := opens_slice Try.underlying44 cells_Cell (by decide) opens_Cell

theorem cells_S_int : Try.prog.cellsOf 33 = 1 := by kernel_rfl
theorem opens_S_int : Opens Try.prog 33 (SlR IntR 1) := opens_slice Try.underlying33 cells_int (by decide) opens_int_

theorem cells_Pool : Try.prog.cellsOf 46 = 2 := by kernel_rfl
theorem opens_Pool : Opens Try.prog 46 GPool.R := by
  intro H enc w spare held fuel cs x h
  obtain ⟨xs, n, rfl, _, hl, hxl, hf⟩ := DataW.trod_struct Try.underlying46 h
  rw [cells_Pool] at hl
  obtain ⟨c0, c1, rfl⟩ := list_len2 hl
  have h0 : DataW.trod enc Try.prog w 0 spare held n 44 (List.take (Try.prog.cellsOf 44) (List.drop 0 [c0, c1])) = xs[0]? := hf 0 _ rfl
  rw [cells_S_Cell, List.getElem?_eq_getElem (by rw [hxl]; decide)] at h0
  have h1 : DataW.trod enc Try.prog w 0 spare held n 33 (List.take (Try.prog.cellsOf 33) (List.drop 1 [c0, c1])) = xs[1]? := hf 1 _ rfl
  rw [cells_S_int, List.getElem?_eq_getElem (by rw [hxl]; decide)] at h1
  obtain ⟨z0, v0, e0, s0⟩ := opens_S_Cell _ _ _ _ _ _ _ _ h0
  simp only [List.drop_zero, List.drop_succ_cons, List.take_succ_cons, List.take_zero, List.cons.injEq, and_true] at e0
  obtain rfl := e0
  obtain ⟨z1, v1, e1, s1⟩ := opens_S_int _ _ _ _ _ _ _ _ h1
  simp only [List.drop_zero, List.drop_succ_cons, List.take_succ_cons, List.take_zero, List.cons.injEq, and_true] at e1
  obtain rfl := e1
  exact ⟨⟨z0, z1⟩, _, _, rfl, trivial, s0, s1⟩

theorem cells_DNode : Try.prog.cellsOf 103 = 4 := by kernel_rfl
theorem opens_DNode : Opens Try.prog 103 GDNode.R := by
  intro H enc w spare held fuel cs x h
  obtain ⟨xs, n, rfl, _, hl, hxl, hf⟩ := DataW.trod_struct Try.underlying103 h
  rw [cells_DNode] at hl
  obtain ⟨c0, c1, c2, c3, rfl⟩ := list_len4 hl
  have h0 : DataW.trod enc Try.prog w 0 spare held n 3 (List.take (Try.prog.cellsOf 3) (List.drop 0 [c0, c1, c2, c3])) = xs[0]? := hf 0 _ rfl
  rw [cells_int, List.getElem?_eq_getElem (by rw [hxl]; decide)] at h0
  have h1 : DataW.trod enc Try.prog w 0 spare held n 3 (List.take (Try.prog.cellsOf 3) (List.drop 1 [c0, c1, c2, c3])) = xs[1]? := hf 1 _ rfl
  rw [cells_int, List.getElem?_eq_getElem (by rw [hxl]; decide)] at h1
  have h2 : DataW.trod enc Try.prog w 0 spare held n 9 (List.take (Try.prog.cellsOf 9) (List.drop 2 [c0, c1, c2, c3])) = xs[2]? := hf 2 _ rfl
  rw [cells_str, List.getElem?_eq_getElem (by rw [hxl]; decide)] at h2
  have h3 : DataW.trod enc Try.prog w 0 spare held n 33 (List.take (Try.prog.cellsOf 33) (List.drop 3 [c0, c1, c2, c3])) = xs[3]? := hf 3 _ rfl
  rw [cells_S_int, List.getElem?_eq_getElem (by rw [hxl]; decide)] at h3
  obtain ⟨z0, e0, w0⟩ := opens_int_ _ _ _ _ _ _ _ _ h0
  simp only [List.drop_zero, List.drop_succ_cons, List.take_succ_cons, List.take_zero, List.cons.injEq, and_true] at e0
  obtain rfl := e0
  obtain ⟨z1, e1, w1⟩ := opens_int_ _ _ _ _ _ _ _ _ h1
  simp only [List.drop_zero, List.drop_succ_cons, List.take_succ_cons, List.take_zero, List.cons.injEq, and_true] at e1
  obtain rfl := e1
  obtain ⟨z2, e2, w2⟩ := opens_str_ _ _ _ _ _ _ _ _ h2
  simp only [List.drop_zero, List.drop_succ_cons, List.take_succ_cons, List.take_zero, List.cons.injEq, and_true] at e2
  obtain rfl := e2
  obtain ⟨z3, v3, e3, s3⟩ := opens_S_int _ _ _ _ _ _ _ _ h3
  simp only [List.drop_zero, List.drop_succ_cons, List.take_succ_cons, List.take_zero, List.cons.injEq, and_true] at e3
  obtain rfl := e3
  exact ⟨⟨z0, z1, z2, z3⟩, _, rfl, ⟨w0, w1, w2⟩, s3⟩

theorem cells_S_DNode : Try.prog.cellsOf 22 = 1 := by kernel_rfl
theorem opens_S_DNode : Opens Try.prog 22 (SlR GDNode.R 4) := opens_slice Try.underlying22 cells_DNode (by decide) opens_DNode

theorem cells_Data : Try.prog.cellsOf 24 = 1 := by kernel_rfl
theorem opens_Data : Opens Try.prog 24 GData.R := by
  intro H enc w spare held fuel cs x h
  obtain ⟨xs, n, rfl, _, hl, hxl, hf⟩ := DataW.trod_struct Try.underlying24 h
  rw [cells_Data] at hl
  obtain ⟨c0, rfl⟩ := list_len1 hl
  have h0 : DataW.trod enc Try.prog w 0 spare held n 22 (List.take (Try.prog.cellsOf 22) (List.drop 0 [c0])) = xs[0]? := hf 0 _ rfl
  rw [cells_S_DNode, List.getElem?_eq_getElem (by rw [hxl]; decide)] at h0
  obtain ⟨z0, v0, e0, s0⟩ := opens_S_DNode _ _ _ _ _ _ _ _ h0
  simp only [List.drop_zero, List.drop_succ_cons, List.take_succ_cons, List.take_zero, List.cons.injEq, and_true] at e0
  obtain rfl := e0
  exact ⟨⟨z0⟩, _, rfl, trivial, s0⟩

theorem cells_S_str : Try.prog.cellsOf 32 = 1 := by kernel_rfl
theorem opens_S_str : Opens Try.prog 32 (SlR StrR 1) := opens_slice Try.underlying32 cells_str (by decide) opens_str_

theorem cells_Case : Try.prog.cellsOf 35 = 4 := by kernel_rfl
theorem opens_Case : Opens Try.prog 35 GCase.R := by
  intro H enc w spare held fuel cs x h
  obtain ⟨xs, n, rfl, _, hl, hxl, hf⟩ := DataW.trod_struct Try.underlying35 h
  rw [cells_Case] at hl
  obtain ⟨c0, c1, c2, c3, rfl⟩ := list_len4 hl
  have h0 : DataW.trod enc Try.prog w 0 spare held n 9 (List.take (Try.prog.cellsOf 9) (List.drop 0 [c0, c1, c2, c3])) = xs[0]? := hf 0 _ rfl
  rw [cells_str, List.getElem?_eq_getElem (by rw [hxl]; decide)] at h0
  have h1 : DataW.trod enc Try.prog w 0 spare held n 32 (List.take (Try.prog.cellsOf 32) (List.drop 1 [c0, c1, c2, c3])) = xs[1]? := hf 1 _ rfl
  rw [cells_S_str, List.getElem?_eq_getElem (by rw [hxl]; decide)] at h1
  have h2 : DataW.trod enc Try.prog w 0 spare held n 33 (List.take (Try.prog.cellsOf 33) (List.drop 2 [c0, c1, c2, c3])) = xs[2]? := hf 2 _ rfl
  rw [cells_S_int, List.getElem?_eq_getElem (by rw [hxl]; decide)] at h2
  have h3 : DataW.trod enc Try.prog w 0 spare held n 32 (List.take (Try.prog.cellsOf 32) (List.drop 3 [c0, c1, c2, c3])) = xs[3]? := hf 3 _ rfl
  rw [cells_S_str, List.getElem?_eq_getElem (by rw [hxl]; decide)] at h3
  obtain ⟨z0, e0, w0⟩ := opens_str_ _ _ _ _ _ _ _ _ h0
  simp only [List.drop_zero, List.drop_succ_cons, List.take_succ_cons, List.take_zero, List.cons.injEq, and_true] at e0
  obtain rfl := e0
  obtain ⟨z1, v1, e1, s1⟩ := opens_S_str _ _ _ _ _ _ _ _ h1
  simp only [List.drop_zero, List.drop_succ_cons, List.take_succ_cons, List.take_zero, List.cons.injEq, and_true] at e1
  obtain rfl := e1
  obtain ⟨z2, v2, e2, s2⟩ := opens_S_int _ _ _ _ _ _ _ _ h2
  simp only [List.drop_zero, List.drop_succ_cons, List.take_succ_cons, List.take_zero, List.cons.injEq, and_true] at e2
  obtain rfl := e2
  obtain ⟨z3, v3, e3, s3⟩ := opens_S_str _ _ _ _ _ _ _ _ h3
  simp only [List.drop_zero, List.drop_succ_cons, List.take_succ_cons, List.take_zero, List.cons.injEq, and_true] at e3
  obtain rfl := e3
  exact ⟨⟨z0, z1, z2, z3⟩, _, _, _, rfl, w0, s1, s2, s3⟩

end Go.Proofs.Ytpdpcicccjiheaa