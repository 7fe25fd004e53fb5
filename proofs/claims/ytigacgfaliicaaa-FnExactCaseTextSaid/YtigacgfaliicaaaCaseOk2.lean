/- CaseOk: the program's, behind its first test. -/
import Derived.Test.YtigacgfaliicaaaCaseOk
namespace Go.Proofs.Ytigacgfaliicaaa
open Go.RowKit
set_option linter.unusedVariables false
set_option linter.unusedSimpArgs false
attribute [local go_sem] Ext.cell

set_option maxRecDepth 100000 in
set_option maxHeartbeats 8000000 in
theorem caseHead_yes (x : GCase) (r : List Value) (lo : Nat) (w : World) (hr : GCase.R lo w r x) (hh : caseHead x = true) :
    Calls Try.prog 15 #[.agg r.toArray] w fun e w' => e = .returned (.bool (caseOk x)) ∧ Below w.heap.size w w' := by
  obtain ⟨u1, u2, u3, rfl, hwf, a1, a2, a3⟩ := hr
  have hs : StrOk x.name := hwf
  have hh0 := hh
  unfold caseHead at hh
  simp only [Bool.and_eq_true, decide_eq_true_eq] at hh
  obtain ⟨⟨⟨hn, hL⟩, hW⟩, hI⟩ := hh
  have c1 := fun W => impl_NameOk_c x.name hs W
  rw [hn] at c1
  have c2 := fun W => within_c x.lines.length 1 60 W
  rw [decide_eq_true hL] at c2
  have c3 := fun (b : Nat) (W : World) (hb : RowAt W b 0 [u1, u3]) (hWw : Below w.heap.size w W) => concat_c x.lines x.want (by omega) (by omega) (by omega) u1 u3 lo b W (a1.below StrR.good hWw) (a3.below StrR.good hWw) hb
  have c4 := fun (W : World) (hWw : Below w.heap.size w W) => containsFuncInt_c x.inputs badNum 28 #[] lo u2 W (a2.below IntR.good hWw) (fun i n r W' _ _ hn => badNum_c n hn.2 W') (fun _ _ => by kernel_rfl)
  obtain ⟨la, lc, rfl⟩ := a1.form
  obtain ⟨ia, ic, rfl⟩ := a2.form
  obtain ⟨wa, wc, rfl⟩ := a3.form
  have hrest := fun hl => caseOk_rest (x := x) hh0 hl
  have hbad := fun (k : Nat) l hl h => caseOk_line (x := x) (k := k) (l := l) hl h
  generalize x.inputs.any badNum = q5 at *
  generalize hz : x.lines ++ x.want = zs at *
  have hzl : zs.length ≤ 120 := by rw [← hz, List.length_append]; omega
  have d3 : decide ((60 : Int) < (x.want.length : Int)) = false := decide_eq_false (by omega)
  have d3' : decide (60 < x.want.length) = false := decide_eq_false (by omega)
  have d4 : decide ((50 : Int) < (x.inputs.length : Int)) = false := decide_eq_false (by omega)
  have d4' : decide (50 < x.inputs.length) = false := decide_eq_false (by omega)
  generalize caseOk x = fin at *
  generalize x.name = nm at *
  generalize x.lines.length = L at *
  generalize x.inputs.length = I at *
  generalize x.want.length = W at *
  clear a1 a2 a3 hwf hs hh0 hn hz
  replace c1 := Lib.hid c1; replace c2 := Lib.hid c2; replace c3 := Lib.hid c3; replace c4 := Lib.hid c4; replace hrest := Lib.hid hrest; replace hbad := Lib.hid hbad
  go_enter Try.func15, Try.ntmps15
  go_upto_region 1 with fail
  have C : RowAt (w.alloc (.cells #[.string nm, .slice la L lc, .slice ia I ic, .slice wa W wc] 28)) (w.heap.size) 0 [.string nm, .slice la L lc, .slice ia I ic, .slice wa W wc] := RowAt.box w #[.string nm, .slice la L lc, .slice ia I ic, .slice wa W wc] 28
  have hw : Below w.heap.size w (w.alloc (.cells #[.string nm, .slice la L lc, .slice ia I ic, .slice wa W wc] 28)) := by go_grown
  generalize (w.alloc (.cells #[.string nm, .slice la L lc, .slice ia I ic, .slice wa W wc] 28)) = w0 at *
  obtain ⟨c_0, c_1, c_2, c_3⟩ := C.box4; have hsC := World.block_lt_of_cell? _ _ c_0; dsimp only at hsC
  go_upto_region 3 with (first | (go_at_call 23; ((with_reducible refine (c1.out _).mono ?_); rintro e w1 ⟨rfl, hb⟩; have hw := hw.trans (hb.mono hw.size); have C := C.below hb; obtain ⟨c_0, c_1, c_2, c_3⟩ := C.box4; have hsC := World.block_lt_of_cell? _ _ c_0; dsimp only at hsC; clear hb)) | (go_at_call 24; ((with_reducible refine (c2.out _).mono ?_); rintro e w1 ⟨rfl, rfl⟩)))
  go_wp2_with fail
  have hb2 : RowAt (w1.alloc (.cells #[.slice la L lc, .slice wa W wc] 22)) w1.heap.size 0 [.slice la L lc, .slice wa W wc] := RowAt.box w1 #[_, _] _
  have hwa : Below w.heap.size w (w1.alloc (.cells #[.slice la L lc, .slice wa W wc] 22)) := by go_grown
  have Ca := C.below (show Below w1.heap.size w1 (w1.alloc (.cells #[.slice la L lc, .slice wa W wc] 22)) by go_grown)
  refine (c3.out _ _ hb2 hwa).mono ?_
  rintro e w2 ⟨v, rfl, S, hb⟩
  have hw2 := hwa.trans (hb.mono hwa.size)
  have C := Ca.below hb
  clear hb hb2 hwa Ca c1 c2 c3 c_0 c_1 c_2 c_3 hsC
  obtain ⟨za, zc, rfl, zl, zm, h0⟩ := S
  obtain ⟨m, hm⟩ : ∃ m, m = zs.length := ⟨_, rfl⟩
  rw [← hm] at zl hzl ⊢
  replace hm := Lib.hid hm
  replace h0 := Lib.hid h0
  obtain ⟨c_0, c_1, c_2, c_3⟩ := C.box4; have hsC := World.block_lt_of_cell? _ _ c_0; dsimp only at hsC
  go_wp2_with fail
  go_loopw [35] (fun i wr => ∃ k : Nat, k ≤ m ∧ i = .int .i64 k ∧ Below w.heap.size w wr ∧ Below w2.heap.size w2 wr ∧ RowAt wr w.heap.size 0 [.string nm, .slice la L lc, .slice ia I ic, .slice wa W wc] ∧ Hid (∀ y ∈ zs.take k, lineOk y = true)) (fun i _ => m - (intOf i).toNat)
  case atStart => exact ⟨0, by omega, rfl, hw2, Below.refl _ _, C, fun y hy => by simp at hy⟩
  case round =>
    clear hw2 C c_0 c_1 c_2 c_3 hsC
    obtain ⟨k, hk, rfl, hw, hw2, C, hF⟩ := hrel
    obtain ⟨c_0, c_1, c_2, c_3⟩ := C.box4; have hsC := World.block_lt_of_cell? _ _ c_0; dsimp only at hsC
    by_cases hlt : k < m
    · obtain ⟨b1, o1, x, r, _, rfl, P1, ⟨rfl, hx⟩, r1⟩ := (h0.out.below StrR.good hw2).get hm hlt
      have e0 : wr.cell? ⟨b1, o1 + k, none⟩ = some (.string x) := by simpa using r1 0 _ rfl
      have c5 := fun W => lineOk_c x hx W
      clear r1
      generalize hq : lineOk x = q at *
      replace hq := Lib.hid hq
      cases q with
      | true =>
        go_wp2_with (go_at_call 26; ((with_reducible refine (c5 _).mono ?_); rintro e w1 ⟨rfl, rfl⟩))
        go_roundw
        case rel => exact ⟨k + 1, by omega, by go_num, hw, hw2, C, take_all hF.out P1.out hq.out⟩
        case measure => simp [intOf]; omega
      | false =>
        have hb := Lib.hid (hbad.out k x P1.out hq.out)
        go_wp2_with (go_at_call 26; ((with_reducible refine (c5 _).mono ?_); rintro e w1 ⟨rfl, rfl⟩))
        go_returns
        exact ⟨by rw [hb.out]; rfl, hw⟩
    · obtain rfl : k = m := by omega
      have hfin := hrest.out (by rw [← hm.out]; exact hF.out)
      replace hfin := Lib.hid hfin
      go_wp2_with (go_at_call 27; ((with_reducible refine (c4.out _ hw).mono ?_); rintro e w1 ⟨rfl, hb⟩; have hw := hw.trans (hb.mono hw.size); have C := C.below hb; obtain ⟨c_0, c_1, c_2, c_3⟩ := C.box4; have hsC := World.block_lt_of_cell? _ _ c_0; dsimp only at hsC; clear hb))
      go_returns
      exact ⟨by rw [hfin.out]; rfl, hw⟩

theorem impl_CaseOk_c (x : GCase) (r : List Value) (lo : Nat) (hbk : x.bulk ≤ 1048576) (w : World) (hr : GCase.R lo w r x) :
    Calls Try.prog 15 #[.agg r.toArray] w fun e w' => e = .returned (.bool (caseOk x)) ∧ Below w.heap.size w w' := by
  cases h : caseHead x with
  | false => exact caseHead_no x r lo w hr h
  | true => exact caseHead_yes x r lo w hr h

end Go.Proofs.Ytigacgfaliicaaa
