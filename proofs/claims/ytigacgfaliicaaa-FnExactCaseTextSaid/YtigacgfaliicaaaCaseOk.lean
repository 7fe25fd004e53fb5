/- CaseOk: the program's. -/
import Derived.Test.YtigacgfaliicaaaCase
import Derived.Test.YtigacgfaliicaaaConcat2
namespace Go.Proofs.Ytigacgfaliicaaa
open Go.RowKit
set_option linter.unusedVariables false
set_option linter.unusedSimpArgs false
attribute [local go_sem] Ext.cell

def caseHead (x : GCase) : Bool := ((nameOk x.name && decide (1 ≤ (x.lines.length : Int) ∧ (x.lines.length : Int) ≤ 60)) && decide ((x.want.length : Int) ≤ 60)) && decide ((x.inputs.length : Int) ≤ 50)
def caseOk (x : GCase) : Bool := caseHead x && ((x.lines ++ x.want).all lineOk && !x.inputs.any badNum)
theorem caseOk_head {x : GCase} (h : caseHead x = false) : caseOk x = false := by unfold caseOk; rw [h]; rfl
theorem caseOk_line {x : GCase} {k : Nat} {l : ByteArray} (hl : (x.lines ++ x.want)[k]? = some l) (h : lineOk l = false) : caseOk x = false := by
  have : (x.lines ++ x.want).all lineOk = false := List.all_eq_false.2 ⟨l, List.mem_of_getElem? hl, by rw [h]; decide⟩
  unfold caseOk; rw [this]; simp
theorem caseOk_rest {x : GCase} (h : caseHead x = true) (hl : ∀ y ∈ (x.lines ++ x.want).take (x.lines ++ x.want).length, lineOk y = true) : caseOk x = !x.inputs.any badNum := by
  have : (x.lines ++ x.want).all lineOk = true := List.all_eq_true.2 fun y hy => hl y (by rw [List.take_length]; exact hy)
  unfold caseOk; rw [h, this]; simp

set_option maxRecDepth 100000 in
set_option maxHeartbeats 4000000 in
theorem caseHead_no (x : GCase) (r : List Value) (lo : Nat) (w : World) (hr : GCase.R lo w r x) (hh : caseHead x = false) :
    Calls Try.prog 15 #[.agg r.toArray] w fun e w' => e = .returned (.bool (caseOk x)) ∧ Below w.heap.size w w' := by
  rw [caseOk_head hh]
  obtain ⟨u1, u2, u3, rfl, hwf, a1, a2, a3⟩ := hr
  have hs : StrOk x.name := by first | exact hwf | exact hwf.1
  obtain ⟨la, lc, rfl⟩ := a1.form
  obtain ⟨ia, ic, rfl⟩ := a2.form
  obtain ⟨wa, wc, rfl⟩ := a3.form
  have c1 := fun W => impl_NameOk_c x.name hs W
  have c2 := fun W => within_c x.lines.length 1 60 W
  unfold caseHead at hh
  clear a1 a2 a3 hwf hs
  generalize nameOk x.name = q1 at *
  generalize x.name = nm at *
  generalize x.lines.length = L at *
  generalize x.inputs.length = I at *
  generalize x.want.length = W at *
  generalize hq2 : decide (1 ≤ (L : Int) ∧ (L : Int) ≤ 60) = q2 at *
  clear hq2
  replace c1 := Lib.hid c1; replace c2 := Lib.hid c2
  have hd3 : decide ((60 : Int) < (W : Int)) = !decide ((W : Int) ≤ 60) := by
    by_cases h : (W : Int) ≤ 60
    · rw [decide_eq_true h, decide_eq_false (by omega)]; rfl
    · rw [decide_eq_false h, decide_eq_true (by omega)]; rfl
  have hd3' : decide (60 < W) = !decide ((W : Int) ≤ 60) := by
    by_cases h : (W : Int) ≤ 60
    · rw [decide_eq_true h, decide_eq_false (by omega)]; rfl
    · rw [decide_eq_false h, decide_eq_true (by omega)]; rfl
  have hd4 : decide ((50 : Int) < (I : Int)) = !decide ((I : Int) ≤ 50) := by
    by_cases h : (I : Int) ≤ 50
    · rw [decide_eq_true h, decide_eq_false (by omega)]; rfl
    · rw [decide_eq_false h, decide_eq_true (by omega)]; rfl
  have hd4' : decide (50 < I) = !decide ((I : Int) ≤ 50) := by
    by_cases h : (I : Int) ≤ 50
    · rw [decide_eq_true h, decide_eq_false (by omega)]; rfl
    · rw [decide_eq_false h, decide_eq_true (by omega)]; rfl
  generalize decide ((W : Int) ≤ 60) = q3 at *
  generalize decide ((I : Int) ≤ 50) = q4 at *
  cases q1
  · clear hh
    go_enter Try.func15, Try.ntmps15
    go_upto_region 1 with fail
    have C : RowAt (w.alloc (.cells #[.string nm, .slice la L lc, .slice ia I ic, .slice wa W wc] 28)) (w.heap.size) 0 [.string nm, .slice la L lc, .slice ia I ic, .slice wa W wc] := RowAt.box w #[.string nm, .slice la L lc, .slice ia I ic, .slice wa W wc] 28
    have hw : Below w.heap.size w (w.alloc (.cells #[.string nm, .slice la L lc, .slice ia I ic, .slice wa W wc] 28)) := by go_grown
    generalize (w.alloc (.cells #[.string nm, .slice la L lc, .slice ia I ic, .slice wa W wc] 28)) = w0 at *
    obtain ⟨c_0, c_1, c_2, c_3⟩ := C.box4; have hsC := World.block_lt_of_cell? _ _ c_0; dsimp only at hsC
    go_wp2_with (first | (go_at_call 23; ((with_reducible refine (c1.out _).mono ?_); rintro e w1 ⟨rfl, hb⟩; have hw := hw.trans (hb.mono hw.size); have C := C.below hb; obtain ⟨c_0, c_1, c_2, c_3⟩ := C.box4; have hsC := World.block_lt_of_cell? _ _ c_0; dsimp only at hsC; clear hb)) | (go_at_call 24; ((with_reducible refine (c2.out _).mono ?_); rintro e w1 ⟨rfl, rfl⟩)))
    go_returns
    exact ⟨rfl, hw⟩
  cases q2
  · clear hh
    go_enter Try.func15, Try.ntmps15
    go_upto_region 1 with fail
    have C : RowAt (w.alloc (.cells #[.string nm, .slice la L lc, .slice ia I ic, .slice wa W wc] 28)) (w.heap.size) 0 [.string nm, .slice la L lc, .slice ia I ic, .slice wa W wc] := RowAt.box w #[.string nm, .slice la L lc, .slice ia I ic, .slice wa W wc] 28
    have hw : Below w.heap.size w (w.alloc (.cells #[.string nm, .slice la L lc, .slice ia I ic, .slice wa W wc] 28)) := by go_grown
    generalize (w.alloc (.cells #[.string nm, .slice la L lc, .slice ia I ic, .slice wa W wc] 28)) = w0 at *
    obtain ⟨c_0, c_1, c_2, c_3⟩ := C.box4; have hsC := World.block_lt_of_cell? _ _ c_0; dsimp only at hsC
    go_wp2_with (first | (go_at_call 23; ((with_reducible refine (c1.out _).mono ?_); rintro e w1 ⟨rfl, hb⟩; have hw := hw.trans (hb.mono hw.size); have C := C.below hb; obtain ⟨c_0, c_1, c_2, c_3⟩ := C.box4; have hsC := World.block_lt_of_cell? _ _ c_0; dsimp only at hsC; clear hb)) | (go_at_call 24; ((with_reducible refine (c2.out _).mono ?_); rintro e w1 ⟨rfl, rfl⟩)))
    go_returns
    exact ⟨rfl, hw⟩
  cases q3
  · clear hh
    go_enter Try.func15, Try.ntmps15
    go_upto_region 1 with fail
    have C : RowAt (w.alloc (.cells #[.string nm, .slice la L lc, .slice ia I ic, .slice wa W wc] 28)) (w.heap.size) 0 [.string nm, .slice la L lc, .slice ia I ic, .slice wa W wc] := RowAt.box w #[.string nm, .slice la L lc, .slice ia I ic, .slice wa W wc] 28
    have hw : Below w.heap.size w (w.alloc (.cells #[.string nm, .slice la L lc, .slice ia I ic, .slice wa W wc] 28)) := by go_grown
    generalize (w.alloc (.cells #[.string nm, .slice la L lc, .slice ia I ic, .slice wa W wc] 28)) = w0 at *
    obtain ⟨c_0, c_1, c_2, c_3⟩ := C.box4; have hsC := World.block_lt_of_cell? _ _ c_0; dsimp only at hsC
    go_wp2_with (first | (go_at_call 23; ((with_reducible refine (c1.out _).mono ?_); rintro e w1 ⟨rfl, hb⟩; have hw := hw.trans (hb.mono hw.size); have C := C.below hb; obtain ⟨c_0, c_1, c_2, c_3⟩ := C.box4; have hsC := World.block_lt_of_cell? _ _ c_0; dsimp only at hsC; clear hb)) | (go_at_call 24; ((with_reducible refine (c2.out _).mono ?_); rintro e w1 ⟨rfl, rfl⟩)))
    go_returns
    exact ⟨rfl, hw⟩
  cases q4
  · clear hh
    go_enter Try.func15, Try.ntmps15
    go_upto_region 1 with fail
    have C : RowAt (w.alloc (.cells #[.string nm, .slice la L lc, .slice ia I ic, .slice wa W wc] 28)) (w.heap.size) 0 [.string nm, .slice la L lc, .slice ia I ic, .slice wa W wc] := RowAt.box w #[.string nm, .slice la L lc, .slice ia I ic, .slice wa W wc] 28
    have hw : Below w.heap.size w (w.alloc (.cells #[.string nm, .slice la L lc, .slice ia I ic, .slice wa W wc] 28)) := by go_grown
    generalize (w.alloc (.cells #[.string nm, .slice la L lc, .slice ia I ic, .slice wa W wc] 28)) = w0 at *
    obtain ⟨c_0, c_1, c_2, c_3⟩ := C.box4; have hsC := World.block_lt_of_cell? _ _ c_0; dsimp only at hsC
    go_wp2_with (first | (go_at_call 23; ((with_reducible refine (c1.out _).mono ?_); rintro e w1 ⟨rfl, hb⟩; have hw := hw.trans (hb.mono hw.size); have C := C.below hb; obtain ⟨c_0, c_1, c_2, c_3⟩ := C.box4; have hsC := World.block_lt_of_cell? _ _ c_0; dsimp only at hsC; clear hb)) | (go_at_call 24; ((with_reducible refine (c2.out _).mono ?_); rintro e w1 ⟨rfl, rfl⟩)))
    go_returns
    exact ⟨rfl, hw⟩
  · cases hh

end Go.Proofs.Ytigacgfaliicaaa
