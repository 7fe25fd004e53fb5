/- How the laws' arguments open. Printed by gen_open.py. -/
import Derived.Test.YtigacgfaliicaaaRows
import Derived.Test.YtigacgfaliicaaaOpen
namespace Go.Proofs.Ytigacgfaliicaaa
open Go.RowKit
set_option linter.unusedVariables false
set_option linter.unusedSimpArgs false

theorem opens_str_ : Opens Try.prog 9 StrR := opens_string Try.underlying9
theorem cells_str : Try.prog.cellsOf 9 = 1 := by kernel_rfl

theorem cells_S_str : Try.prog.cellsOf 22 = 1 := by kernel_rfl
theorem opens_S_str : Opens Try.prog 22 (SlR StrR 1) := opens_slice Try.underlying22 cells_str (by decide) opens_str_

theorem opens_int_ : Opens Try.prog 3 IntR := opens_int Try.underlying3
theorem cells_int : Try.prog.cellsOf 3 = 1 := by kernel_rfl

theorem cells_S_int : Try.prog.cellsOf 23 = 1 := by kernel_rfl
theorem opens_S_int : Opens Try.prog 23 (SlR IntR 1) := opens_slice Try.underlying23 cells_int (by decide) opens_int_

theorem cells_Case : Try.prog.cellsOf 25 = 4 := by kernel_rfl
theorem opens_Case : Opens Try.prog 25 GCase.R := by
  intro H enc w spare held fuel cs x h
  obtain ⟨xs, n, rfl, _, hl, hxl, hf⟩ := DataW.trod_struct Try.underlying25 h
  rw [cells_Case] at hl
  obtain ⟨c0, c1, c2, c3, rfl⟩ := list_len4 hl
  have h0 : DataW.trod enc Try.prog w 0 spare held n 9 (List.take (Try.prog.cellsOf 9) (List.drop 0 [c0, c1, c2, c3])) = xs[0]? := hf 0 _ rfl
  rw [cells_str, List.getElem?_eq_getElem (by rw [hxl]; decide)] at h0
  have h1 : DataW.trod enc Try.prog w 0 spare held n 22 (List.take (Try.prog.cellsOf 22) (List.drop 1 [c0, c1, c2, c3])) = xs[1]? := hf 1 _ rfl
  rw [cells_S_str, List.getElem?_eq_getElem (by rw [hxl]; decide)] at h1
  have h2 : DataW.trod enc Try.prog w 0 spare held n 23 (List.take (Try.prog.cellsOf 23) (List.drop 2 [c0, c1, c2, c3])) = xs[2]? := hf 2 _ rfl
  rw [cells_S_int, List.getElem?_eq_getElem (by rw [hxl]; decide)] at h2
  have h3 : DataW.trod enc Try.prog w 0 spare held n 22 (List.take (Try.prog.cellsOf 22) (List.drop 3 [c0, c1, c2, c3])) = xs[3]? := hf 3 _ rfl
  rw [cells_S_str, List.getElem?_eq_getElem (by rw [hxl]; decide)] at h3
  obtain ⟨z0, e0, w0⟩ := opens_str_ _ _ _ _ _ _ _ _ h0
  simp only [List.drop_zero, List.drop_succ_cons, List.take_succ_cons, List.take_zero, List.cons.injEq, and_true] at e0
  obtain rfl := e0
  obtain ⟨z1, v1, e1, s1⟩ := opens_S_str _ _ _ _ _ _ _ _ h1
  simp only [List.drop_zero, List.drop_succ_cons, List.take_succ_cons, List.take_zero, List.cons.injEq, and_true] at e1
  obtain rfl := e1
  obtain ⟨z2, v2, e2, s2⟩ := opens_S_int _ _ _ _ _ _ _ _ h2
  simp only [List.drop_zero, List.drop_succ_cons, List.take_succ_cons, List.take_zero, List.cons.injEq, and_true] at e2
  obtain rfl := e2
  obtain ⟨z3, v3, e3, s3⟩ := opens_S_str _ _ _ _ _ _ _ _ h3
  simp only [List.drop_zero, List.drop_succ_cons, List.take_succ_cons, List.take_zero, List.cons.injEq, and_true] at e3
  obtain rfl := e3
  exact ⟨⟨z0, z1, z2, z3⟩, _, _, _, rfl, w0, s1, s2, s3⟩

end Go.Proofs.Ytigacgfaliicaaa