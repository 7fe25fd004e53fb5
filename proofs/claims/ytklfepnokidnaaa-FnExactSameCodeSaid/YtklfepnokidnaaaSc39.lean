/- Parts of the proof, merged: Opens. -/
import Derived.Test.YtklfepnokidnaaaRows
import Derived.Test.YtklfepnokidnaaaSc38
/- How the laws' arguments open. Printed by gen_open.py. -/
namespace Go.Proofs.Ytklfepnokidnaaa
open Go.RowKit
set_option linter.unusedVariables false
set_option linter.unusedSimpArgs false

theorem opens_int_ : Opens Try.prog 3 IntR := opens_int Try.underlying3
theorem cells_int : Try.prog.cellsOf 3 = 1 := by kernel_rfl

theorem opens_str_ : Opens Try.prog 9 StrR := opens_string Try.underlying9
theorem cells_str : Try.prog.cellsOf 9 = 1 := by kernel_rfl

theorem cells_S_int : Try.prog.cellsOf 70 = 1 := by kernel_rfl
theorem opens_S_int : Opens Try.prog 70 (SlR IntR 1) := opens_slice Try.underlying70 cells_int (by decide) opens_int_

theorem cells_PNode : Try.prog.cellsOf 103 = 4 := by kernel_rfl
theorem opens_PNode : Opens Try.prog 103 GPNode.R := by
  intro H enc w spare held fuel cs x h
  obtain ⟨xs, n, rfl, _, hl, hxl, hf⟩ := DataW.trod_struct Try.underlying103 h
  rw [cells_PNode] at hl
  obtain ⟨c0, c1, c2, c3, rfl⟩ := list_len4 hl
  have h0 : DataW.trod enc Try.prog w 0 spare held n 3 (List.take (Try.prog.cellsOf 3) (List.drop 0 [c0, c1, c2, c3])) = xs[0]? := hf 0 _ rfl
  rw [cells_int, List.getElem?_eq_getElem (by rw [hxl]; decide)] at h0
  have h1 : DataW.trod enc Try.prog w 0 spare held n 3 (List.take (Try.prog.cellsOf 3) (List.drop 1 [c0, c1, c2, c3])) = xs[1]? := hf 1 _ rfl
  rw [cells_int, List.getElem?_eq_getElem (by rw [hxl]; decide)] at h1
  have h2 : DataW.trod enc Try.prog w 0 spare held n 9 (List.take (Try.prog.cellsOf 9) (List.drop 2 [c0, c1, c2, c3])) = xs[2]? := hf 2 _ rfl
  rw [cells_str, List.getElem?_eq_getElem (by rw [hxl]; decide)] at h2
  have h3 : DataW.trod enc Try.prog w 0 spare held n 70 (List.take (Try.prog.cellsOf 70) (List.drop 3 [c0, c1, c2, c3])) = xs[3]? := hf 3 _ rfl
  rw [cells_S_int, List.getElem?_eq_getElem (by rw [hxl]; decide)] at h3
  obtain ⟨z0, e0, w0⟩ := opens_int_ _ _ _ _ _ _ _ _ h0
  simp only [List.drop_zero, List.drop_succ_cons, List.take_succ_cons, List.take_zero, List.cons.injEq, and_true] at e0
  obtain rfl := e0
  obtain ⟨z1, e1, w1⟩ := opens_int_ _ _ _ _ _ _ _ _ h1
  simp only [List.drop_zero, List.drop_succ_cons, List.take_succ_cons, List.take_zero, List.cons.injEq, and_true] at e1
  obtain rfl := e1
  obtain ⟨z2, e2, w2⟩ := opens_str_ _ _ _ _ _ _ _ _ h2
  simp only [List.drop_zero, List.drop_succ_cons, List.take_succ_cons, List.take_zero, List.cons.injEq, and_true] at e2
  obtain rfl := e2
  obtain ⟨z3, v3, e3, s3⟩ := opens_S_int _ _ _ _ _ _ _ _ h3
  simp only [List.drop_zero, List.drop_succ_cons, List.take_succ_cons, List.take_zero, List.cons.injEq, and_true] at e3
  obtain rfl := e3
  exact ⟨⟨z0, z1, z2, z3⟩, _, rfl, ⟨w0, w1, w2⟩, s3⟩

theorem cells_S_PNode : Try.prog.cellsOf 52 = 1 := by kernel_rfl
theorem opens_S_PNode : Opens Try.prog 52 (SlR GPNode.R 4) := opens_slice Try.underlying52 cells_PNode (by decide) opens_PNode

theorem cells_Pat : Try.prog.cellsOf 54 = 1 := by kernel_rfl
theorem opens_Pat : Opens Try.prog 54 GPat.R := by
  intro H enc w spare held fuel cs x h
  obtain ⟨xs, n, rfl, _, hl, hxl, hf⟩ := DataW.trod_struct Try.underlying54 h
  rw [cells_Pat] at hl
  obtain ⟨c0, rfl⟩ := list_len1 hl
  have h0 : DataW.trod enc Try.prog w 0 spare held n 52 (List.take (Try.prog.cellsOf 52) (List.drop 0 [c0])) = xs[0]? := hf 0 _ rfl
  rw [cells_S_PNode, List.getElem?_eq_getElem (by rw [hxl]; decide)] at h0
  obtain ⟨z0, v0, e0, s0⟩ := opens_S_PNode _ _ _ _ _ _ _ _ h0
  simp only [List.drop_zero, List.drop_succ_cons, List.take_succ_cons, List.take_zero, List.cons.injEq, and_true] at e0
  obtain rfl := e0
  exact ⟨⟨z0⟩, _, rfl, trivial, s0⟩

theorem cells_Ins : Try.prog.cellsOf 50 = 4 := by kernel_rfl
theorem opens_Ins : Opens Try.prog 50 GIns.R := by
  intro H enc w spare held fuel cs x h
  obtain ⟨xs, n, rfl, _, hl, hxl, hf⟩ := DataW.trod_struct Try.underlying50 h
  rw [cells_Ins] at hl
  obtain ⟨c0, c1, c2, c3, rfl⟩ := list_len4 hl
  have h0 : DataW.trod enc Try.prog w 0 spare held n 3 (List.take (Try.prog.cellsOf 3) (List.drop 0 [c0, c1, c2, c3])) = xs[0]? := hf 0 _ rfl
  rw [cells_int, List.getElem?_eq_getElem (by rw [hxl]; decide)] at h0
  have h1 : DataW.trod enc Try.prog w 0 spare held n 3 (List.take (Try.prog.cellsOf 3) (List.drop 1 [c0, c1, c2, c3])) = xs[1]? := hf 1 _ rfl
  rw [cells_int, List.getElem?_eq_getElem (by rw [hxl]; decide)] at h1
  have h2 : DataW.trod enc Try.prog w 0 spare held n 3 (List.take (Try.prog.cellsOf 3) (List.drop 2 [c0, c1, c2, c3])) = xs[2]? := hf 2 _ rfl
  rw [cells_int, List.getElem?_eq_getElem (by rw [hxl]; decide)] at h2
  have h3 : DataW.trod enc Try.prog w 0 spare held n 9 (List.take (Try.prog.cellsOf 9) (List.drop 3 [c0, c1, c2, c3])) = xs[3]? := hf 3 _ rfl
  rw [cells_str, List.getElem?_eq_getElem (by rw [hxl]; decide)] at h3
  obtain ⟨z0, e0, w0⟩ := opens_int_ _ _ _ _ _ _ _ _ h0
  simp only [List.drop_zero, List.drop_succ_cons, List.take_succ_cons, List.take_zero, List.cons.injEq, and_true] at e0
  obtain rfl := e0
  obtain ⟨z1, e1, w1⟩ := opens_int_ _ _ _ _ _ _ _ _ h1
  simp only [List.drop_zero, List.drop_succ_cons, List.take_succ_cons, List.take_zero, List.cons.injEq, and_true] at e1
  obtain rfl := e1
  obtain ⟨z2, e2, w2⟩ := opens_int_ _ _ _ _ _ _ _ _ h2
  simp only [List.drop_zero, List.drop_succ_cons, List.take_succ_cons, List.take_zero, List.cons.injEq, and_true] at e2
  obtain rfl := e2
  obtain ⟨z3, e3, w3⟩ := opens_str_ _ _ _ _ _ _ _ _ h3
  simp only [List.drop_zero, List.drop_succ_cons, List.take_succ_cons, List.take_zero, List.cons.injEq, and_true] at e3
  obtain rfl := e3
  exact ⟨⟨z0, z1, z2, z3⟩, rfl, ⟨w0, w1, w2, w3⟩⟩

theorem cells_S_Ins : Try.prog.cellsOf 22 = 1 := by kernel_rfl
theorem opens_S_Ins : Opens Try.prog 22 (SlR GIns.R 4) := opens_slice Try.underlying22 cells_Ins (by decide) opens_Ins

theorem cells_S_Pat : Try.prog.cellsOf 23 = 1 := by kernel_rfl
theorem opens_S_Pat : Opens Try.prog 23 (SlR GPat.R 1) := opens_slice Try.underlying23 cells_Pat (by decide) opens_Pat

theorem cells_Code : Try.prog.cellsOf 25 = 2 := by kernel_rfl
theorem opens_Code : Opens Try.prog 25 GCode.R := by
  intro H enc w spare held fuel cs x h
  obtain ⟨xs, n, rfl, _, hl, hxl, hf⟩ := DataW.trod_struct Try.underlying25 h
  rw [cells_Code] at hl
  obtain ⟨c0, c1, rfl⟩ := list_len2 hl
  have h0 : DataW.trod enc Try.prog w 0 spare held n 22 (List.take (Try.prog.cellsOf 22) (List.drop 0 [c0, c1])) = xs[0]? := hf 0 _ rfl
  rw [cells_S_Ins, List.getElem?_eq_getElem (by rw [hxl]; decide)] at h0
  have h1 : DataW.trod enc Try.prog w 0 spare held n 23 (List.take (Try.prog.cellsOf 23) (List.drop 1 [c0, c1])) = xs[1]? := hf 1 _ rfl
  rw [cells_S_Pat, List.getElem?_eq_getElem (by rw [hxl]; decide)] at h1
  obtain ⟨z0, v0, e0, s0⟩ := opens_S_Ins _ _ _ _ _ _ _ _ h0
  simp only [List.drop_zero, List.drop_succ_cons, List.take_succ_cons, List.take_zero, List.cons.injEq, and_true] at e0
  obtain rfl := e0
  obtain ⟨z1, v1, e1, s1⟩ := opens_S_Pat _ _ _ _ _ _ _ _ h1
  simp only [List.drop_zero, List.drop_succ_cons, List.take_succ_cons, List.take_zero, List.cons.injEq, and_true] at e1
  obtain rfl := e1
  exact ⟨⟨z0, z1⟩, _, _, rfl, trivial, s0, s1⟩

theorem cells_S_str : Try.prog.cellsOf 84 = 1 := by kernel_rfl
theorem opens_S_str : Opens Try.prog 84 (SlR StrR 1) := opens_slice Try.underlying84 cells_str (by decide) opens_str_

end Go.Proofs.Ytklfepnokidnaaa
