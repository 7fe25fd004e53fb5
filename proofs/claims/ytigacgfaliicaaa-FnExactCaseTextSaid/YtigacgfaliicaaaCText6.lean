/- The text of a case: the program's and the reference's CaseText, all cases. -/
import Derived.Test.YtigacgfaliicaaaCText5
namespace Go.Proofs.Ytigacgfaliicaaa
open Go.RowKit
set_option linter.unusedVariables false
set_option linter.unusedSimpArgs false
attribute [local go_sem] Ext.cell

set_option maxHeartbeats 2000000 in
theorem impl_CaseText_c (x : GCase) (r : List Value) (lo : Nat) (hbk : x.bulk ≤ 1048576) (w : World) (hr : GCase.R lo w r x) :
    Calls Try.prog 7 #[.agg r.toArray] w fun e w' => e = .returned (.string (caseText x)) ∧ Below w.heap.size w w' := by
  by_cases hok : caseOk x = true
  · have := implCText_yes x r lo hbk w hr hok
    unfold caseText
    rw [if_pos hok]
    exact this
  · have hno : caseOk x = false := by simpa using hok
    have c1 := fun W (hW : Below w.heap.size w W) => impl_CaseOk_c x r lo hbk W (GCase.good.below hr hW)
    rw [hno] at c1
    have hT : caseText x = ByteArray.empty := by unfold caseText; rw [if_neg hok]
    rw [hT]
    obtain ⟨u1, u2, u3, rfl, hwf, a1, a2, a3⟩ := hr
    obtain ⟨la, lc, rfl, -, -, -⟩ := a1
    obtain ⟨ia, ic, rfl, -, -, -⟩ := a2
    obtain ⟨wa, wk, rfl, -, -, -⟩ := a3
    clear hno hok hT
    replace c1 := Lib.hid c1
    generalize x.name = nm at *
    generalize x.lines.length = L at *
    generalize x.inputs.length = In at *
    generalize x.want.length = W at *
    go_enter Try.func7, Try.ntmps7
    go_upto_region 1 with fail
    have C : RowAt (w.alloc (.cells #[.string nm, .slice la L lc, .slice ia In ic, .slice wa W wk] 28)) (w.heap.size) 0 [.string nm, .slice la L lc, .slice ia In ic, .slice wa W wk] := RowAt.box w #[.string nm, .slice la L lc, .slice ia In ic, .slice wa W wk] 28
    have hw : Below w.heap.size w (w.alloc (.cells #[.string nm, .slice la L lc, .slice ia In ic, .slice wa W wk] 28)) := by go_grown
    generalize (w.alloc (.cells #[.string nm, .slice la L lc, .slice ia In ic, .slice wa W wk] 28)) = w0 at *
    obtain ⟨c_0, c_1, c_2, c_3⟩ := C.box4; have hsC := World.block_lt_of_cell? _ _ c_0; dsimp only at hsC
    go_wp2_with (go_at_call 15; ((with_reducible refine (c1.out _ hw).mono ?_); rintro e w1 ⟨rfl, hb⟩; have hw := hw.trans (hb.mono hw.size); have C := C.below hb; obtain ⟨c_0, c_1, c_2, c_3⟩ := C.box4; have hsC := World.block_lt_of_cell? _ _ c_0; dsimp only at hsC; clear hb))
    go_returns
    exact ⟨rfl, hw⟩

set_option maxHeartbeats 2000000 in
theorem spec_CaseText_c (x : GCase) (r : List Value) (lo : Nat) (hbk : x.bulk ≤ 1048576) (w : World) (hr : GCase.R lo w r x) :
    Calls Try.prog 5 #[.agg r.toArray] w fun e w' => e = .returned (.string (caseText x)) ∧ Below w.heap.size w w' := by
  by_cases hok : caseOk x = true
  · have := specCText_yes x r lo hbk w hr hok
    unfold caseText
    rw [if_pos hok]
    exact this
  · have hno : caseOk x = false := by simpa using hok
    have c1 := fun W (hW : Below w.heap.size w W) => spec_CaseOk_c x r lo hbk W (GCase.good.below hr hW)
    rw [hno] at c1
    have hT : caseText x = ByteArray.empty := by unfold caseText; rw [if_neg hok]
    rw [hT]
    obtain ⟨u1, u2, u3, rfl, hwf, a1, a2, a3⟩ := hr
    obtain ⟨la, lc, rfl, -, -, -⟩ := a1
    obtain ⟨ia, ic, rfl, -, -, -⟩ := a2
    obtain ⟨wa, wk, rfl, -, -, -⟩ := a3
    clear hno hok hT
    replace c1 := Lib.hid c1
    generalize x.name = nm at *
    generalize x.lines.length = L at *
    generalize x.inputs.length = In at *
    generalize x.want.length = W at *
    go_enter Try.func5, Try.ntmps5
    go_upto_region 1 with fail
    have C : RowAt (w.alloc (.cells #[.string nm, .slice la L lc, .slice ia In ic, .slice wa W wk] 28)) (w.heap.size) 0 [.string nm, .slice la L lc, .slice ia In ic, .slice wa W wk] := RowAt.box w #[.string nm, .slice la L lc, .slice ia In ic, .slice wa W wk] 28
    have hw : Below w.heap.size w (w.alloc (.cells #[.string nm, .slice la L lc, .slice ia In ic, .slice wa W wk] 28)) := by go_grown
    generalize (w.alloc (.cells #[.string nm, .slice la L lc, .slice ia In ic, .slice wa W wk] 28)) = w0 at *
    obtain ⟨c_0, c_1, c_2, c_3⟩ := C.box4; have hsC := World.block_lt_of_cell? _ _ c_0; dsimp only at hsC
    go_wp2_with (go_at_call 11; ((with_reducible refine (c1.out _ hw).mono ?_); rintro e w1 ⟨rfl, hb⟩; have hw := hw.trans (hb.mono hw.size); have C := C.below hb; obtain ⟨c_0, c_1, c_2, c_3⟩ := C.box4; have hsC := World.block_lt_of_cell? _ _ c_0; dsimp only at hsC; clear hb))
    go_returns
    exact ⟨rfl, hw⟩

end Go.Proofs.Ytigacgfaliicaaa
