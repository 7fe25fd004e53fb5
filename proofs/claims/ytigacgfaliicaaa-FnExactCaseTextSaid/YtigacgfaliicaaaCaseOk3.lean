/- CaseOk: the reference's. -/
import Derived.Test.YtigacgfaliicaaaCaseOk2
namespace Go.Proofs.Ytigacgfaliicaaa
open Go.RowKit
set_option linter.unusedVariables false
set_option linter.unusedSimpArgs false
attribute [local go_sem] Ext.cell

theorem dec_and (a b : Prop) [Decidable a] [Decidable b] [Decidable (a ∧ b)] : decide (a ∧ b) = (decide a && decide b) := by
  by_cases ha : a <;> by_cases hb : b <;> simp [ha, hb]
theorem caseOk_spec (x : GCase) : caseOk x = ((!x.inputs.any badNum) && ((((nameOk x.name && decide (1 ≤ (x.lines.length : Int))) && linesOk x.lines) && linesOk x.want) && decide ((x.inputs.length : Int) ≤ 50))) := by
  unfold caseOk caseHead linesOk
  rw [List.all_append, dec_and]
  cases nameOk x.name <;> cases decide (1 ≤ (x.lines.length : Int)) <;> cases decide ((x.lines.length : Int) ≤ 60) <;> cases decide ((x.want.length : Int) ≤ 60) <;> cases decide ((x.inputs.length : Int) ≤ 50) <;> cases x.lines.all lineOk <;> cases x.want.all lineOk <;> cases x.inputs.any badNum <;> rfl

set_option maxRecDepth 100000 in
set_option maxHeartbeats 8000000 in
theorem spec_CaseOk_c (x : GCase) (r : List Value) (lo : Nat) (hbk : x.bulk ≤ 1048576) (w : World) (hr : GCase.R lo w r x) :
    Calls Try.prog 11 #[.agg r.toArray] w fun e w' => e = .returned (.bool (caseOk x)) ∧ Below w.heap.size w w' := by
  rw [caseOk_spec]
  obtain ⟨u1, u2, u3, rfl, hwf, a1, a2, a3⟩ := hr
  have hs : StrOk x.name := hwf
  have c1 := fun W => spec_NameOk_c x.name hs W
  have c2 := fun (W : World) (hWw : Below w.heap.size w W) => l23Lines_c x.lines lo u1 W (a1.below StrR.good hWw)
  have c3 := fun (W : World) (hWw : Below w.heap.size w W) => l23Lines_c x.want lo u3 W (a3.below StrR.good hWw)
  obtain ⟨la, lc, rfl⟩ := a1.form
  obtain ⟨wa, wc, rfl⟩ := a3.form
  obtain ⟨ia, ic, rfl, il, im, h0⟩ := a2
  have hbad : ∀ (k : Nat) n, x.inputs[k]? = some n → badNum n = true → x.inputs.any badNum = true := fun k n h h2 => List.any_eq_true.2 ⟨n, List.mem_of_getElem? h, h2⟩
  have hgood : (∀ y ∈ x.inputs.take x.inputs.length, badNum y = false) → x.inputs.any badNum = false := fun h => List.any_eq_false.2 fun y hy => by rw [h y (by rw [List.take_length]; exact hy)]; simp
  have e4 : decide (50 < x.inputs.length) = !decide ((x.inputs.length : Int) ≤ 50) := by
    by_cases h : (x.inputs.length : Int) ≤ 50
    · rw [decide_eq_true h, decide_eq_false (by omega)]; rfl
    · rw [decide_eq_false h, decide_eq_true (by omega)]; rfl
  generalize x.inputs.any badNum = q0 at *
  generalize nameOk x.name = q1 at *
  generalize linesOk x.lines = q3 at *
  generalize linesOk x.want = q4 at *
  generalize x.name = nm at *
  generalize x.lines.length = L at *
  generalize x.want.length = W at *
  generalize hxs : x.inputs = xs at *
  obtain ⟨m, hm⟩ : ∃ m, m = xs.length := ⟨_, rfl⟩
  rw [← hm] at il hgood ⊢
  clear a1 a3 hwf hs hxs e4
  replace hm := Lib.hid hm; replace h0 := Lib.hid h0
  replace c1 := Lib.hid c1; replace c2 := Lib.hid c2; replace c3 := Lib.hid c3; replace hbad := Lib.hid hbad; replace hgood := Lib.hid hgood
  go_enter Try.func11, Try.ntmps11
  go_upto_region 1 with fail
  have C : RowAt (w.alloc (.cells #[.string nm, .slice la L lc, .slice ia m ic, .slice wa W wc] 28)) (w.heap.size) 0 [.string nm, .slice la L lc, .slice ia m ic, .slice wa W wc] := RowAt.box w #[.string nm, .slice la L lc, .slice ia m ic, .slice wa W wc] 28
  have hw : Below w.heap.size w (w.alloc (.cells #[.string nm, .slice la L lc, .slice ia m ic, .slice wa W wc] 28)) := by go_grown
  generalize (w.alloc (.cells #[.string nm, .slice la L lc, .slice ia m ic, .slice wa W wc] 28)) = w0 at *
  obtain ⟨c_0, c_1, c_2, c_3⟩ := C.box4; have hsC := World.block_lt_of_cell? _ _ c_0; dsimp only at hsC
  go_wp2_with fail
  go_loopw [8] (fun i wr => ∃ k : Nat, k ≤ m ∧ i = .int .i64 k ∧ Below w.heap.size w wr ∧ RowAt wr w.heap.size 0 [.string nm, .slice la L lc, .slice ia m ic, .slice wa W wc] ∧ Hid (∀ y ∈ xs.take k, badNum y = false)) (fun i _ => m - (intOf i).toNat)
  case atStart => exact ⟨0, by omega, rfl, hw, C, fun y hy => by simp at hy⟩
  case round =>
    clear hw C c_0 c_1 c_2 c_3 hsC
    obtain ⟨k, hk, rfl, hw, C, hF⟩ := hrel
    obtain ⟨c_0, c_1, c_2, c_3⟩ := C.box4; have hsC := World.block_lt_of_cell? _ _ c_0; dsimp only at hsC
    by_cases hlt : k < m
    · obtain ⟨b1, o1, n, r, _, rfl, P1, ⟨rfl, hn64⟩, r1⟩ := (h0.out.below IntR.good hw).get hm hlt
      have e0 : wr.cell? ⟨b1, o1 + k, none⟩ = some (.int .i64 n) := by simpa using r1 0 _ rfl
      have c5 := fun W => spec_NumText_c n hn64 W
      have he : (numText n).toList.isEmpty = badNum n := numText_empty n
      clear r1
      generalize numText n = t at *
      generalize hq : badNum n = q at *
      replace hq := Lib.hid hq
      cases q with
      | false =>
        go_wp2_with (go_at_call 20; ((with_reducible refine (c5 _).mono ?_); rintro e w1 ⟨rfl, hb⟩; have hw := hw.trans (hb.mono hw.size); have C := C.below hb; obtain ⟨c_0, c_1, c_2, c_3⟩ := C.box4; have hsC := World.block_lt_of_cell? _ _ c_0; dsimp only at hsC; clear hb))
        go_roundw
        case rel => exact ⟨k + 1, by omega, by go_num, hw, C, take_all hF.out P1.out hq.out⟩
        case measure => simp [intOf]; omega
      | true =>
        have hb := Lib.hid (hbad.out k n P1.out hq.out)
        go_wp2_with (go_at_call 20; ((with_reducible refine (c5 _).mono ?_); rintro e w1 ⟨rfl, hb⟩; have hw := hw.trans (hb.mono hw.size); have C := C.below hb; obtain ⟨c_0, c_1, c_2, c_3⟩ := C.box4; have hsC := World.block_lt_of_cell? _ _ c_0; dsimp only at hsC; clear hb))
        go_returns
        exact ⟨by rw [hb.out]; rfl, hw⟩
    · obtain rfl : k = m := by omega
      have hq0 := hgood.out (by rw [← hm.out] at *; exact hF.out)
      replace hq0 := Lib.hid hq0
      by_cases hL : 1 ≤ (L : Int)
      all_goals first | (have d1 : decide (1 ≤ (L : Int)) = true := decide_eq_true hL) | (have d1 : decide (1 ≤ (L : Int)) = false := decide_eq_false hL)
      all_goals cases q1 <;> cases q3 <;> cases q4
      all_goals go_wp2_with (first | (go_at_call 21; ((with_reducible refine (c1.out _).mono ?_); rintro e w1 ⟨rfl, hb⟩; have hw := hw.trans (hb.mono hw.size); have C := C.below hb; obtain ⟨c_0, c_1, c_2, c_3⟩ := C.box4; have hsC := World.block_lt_of_cell? _ _ c_0; dsimp only at hsC; clear hb)) | (go_at_call 22; ((with_reducible refine (c2.out _ hw).mono ?_); rintro e w1 ⟨rfl, hb⟩; have hw := hw.trans (hb.mono hw.size); have C := C.below hb; obtain ⟨c_0, c_1, c_2, c_3⟩ := C.box4; have hsC := World.block_lt_of_cell? _ _ c_0; dsimp only at hsC; clear hb)) | (go_at_call 22; ((with_reducible refine (c3.out _ hw).mono ?_); rintro e w1 ⟨rfl, hb⟩; have hw := hw.trans (hb.mono hw.size); have C := C.below hb; obtain ⟨c_0, c_1, c_2, c_3⟩ := C.box4; have hsC := World.block_lt_of_cell? _ _ c_0; dsimp only at hsC; clear hb)))
      all_goals go_returns
      all_goals exact ⟨by rw [hq0.out]; first | rfl | (simp; done) | (simp; omega), hw⟩

end Go.Proofs.Ytigacgfaliicaaa
