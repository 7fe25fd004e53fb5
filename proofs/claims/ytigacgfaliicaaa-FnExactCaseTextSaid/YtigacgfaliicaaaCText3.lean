/- The text of a case: the reference's CaseText. -/
import Derived.Test.YtigacgfaliicaaaCText2
namespace Go.Proofs.Ytigacgfaliicaaa
open Go.RowKit
set_option linter.unusedVariables false
set_option linter.unusedSimpArgs false
attribute [local go_sem] Ext.cell

theorem caseOk_parts {x : GCase} (h : caseOk x = true) : x.name.size ≤ 12 ∧ x.lines.length ≤ 60 ∧ x.want.length ≤ 60 ∧ x.inputs.length ≤ 50 ∧ (∀ s ∈ x.lines, s.size ≤ 200) ∧ (∀ s ∈ x.want, s.size ≤ 200) := by
  unfold caseOk caseHead nameOk wordOk at h
  simp only [Bool.and_eq_true, decide_eq_true_eq, List.all_append] at h
  obtain ⟨⟨⟨⟨⟨⟨⟨_, hn⟩, _⟩, _⟩, hL⟩, hW⟩, hI⟩, ⟨hl, hw⟩, _⟩ := h
  refine ⟨by omega, by omega, by omega, by omega, fun s hs => ?_, fun s hs => ?_⟩
  · have := List.all_eq_true.1 hl s hs
    unfold lineOk at this
    simp only [Bool.and_eq_true, decide_eq_true_eq] at this
    omega
  · have := List.all_eq_true.1 hw s hs
    unfold lineOk at this
    simp only [Bool.and_eq_true, decide_eq_true_eq] at this
    omega
theorem cat_step (xs : List (List UInt8)) (c : UInt8) (s : ByteArray) : tB (catNl (xs ++ [c :: bL s])) = tB (catNl xs) ++ ⟨#[c]⟩ ++ s ++ ⟨#[10]⟩ := by
  rw [catNl_append, tB_append, tB_append, tB_append]
  simp [catNl, bL]
theorem cat_head (s : ByteArray) : tB (catNl [[99, 97, 115, 101, 32] ++ bL s]) = (⟨#[99, 97, 115, 101, 32]⟩ : ByteArray) ++ s ++ ⟨#[10]⟩ := by
  rw [show (⟨#[99, 97, 115, 101, 32]⟩ : ByteArray) = tB [99, 97, 115, 101, 32] from rfl, tB_append, tB_append]
  simp [catNl, bL]
theorem cat_end (xs : List (List UInt8)) : tB (catNl (xs ++ [[101, 110, 100]])) = tB (catNl xs) ++ ⟨#[101, 110, 100, 10]⟩ := by
  rw [catNl_append, tB_append]
  simp [catNl, bL]

def caseA (x : GCase) (k : Nat) : List (List UInt8) := [[99, 97, 115, 101, 32] ++ bL x.name] ++ (x.lines.take k).map (fun s => 62 :: bL s)
def caseB (x : GCase) : List (List UInt8) := caseA x x.lines.length ++ (if x.inputs.length = 0 then [] else [60 :: Lib.join (nums x) [32]])
def caseC (x : GCase) (k : Nat) : List (List UInt8) := caseB x ++ (x.want.take k).map (fun s => 61 :: bL s)
theorem caseA_step {x : GCase} {k : Nat} {s : ByteArray} (h : x.lines[k]? = some s) : caseA x (k + 1) = caseA x k ++ [62 :: bL s] := by unfold caseA; rw [take_snoc' h]; simp
theorem caseC_step {x : GCase} {k : Nat} {s : ByteArray} (h : x.want[k]? = some s) : caseC x (k + 1) = caseC x k ++ [61 :: bL s] := by unfold caseC; rw [take_snoc' h]; simp
theorem case_lines (x : GCase) : caseLines x = caseC x x.want.length ++ [[101, 110, 100]] := by
  unfold caseLines caseC caseB caseA
  rw [List.take_length, List.take_length]

set_option maxRecDepth 100000 in
set_option maxHeartbeats 8000000 in
theorem specCText_yes (x : GCase) (r : List Value) (lo : Nat) (hbk : x.bulk ≤ 1048576) (w : World) (hr : GCase.R lo w r x) (hok : caseOk x = true) :
    Calls Try.prog 5 #[.agg r.toArray] w fun e w' => e = .returned (.string (tB (catNl (caseLines x)))) ∧ Below w.heap.size w w' := by
  obtain ⟨pn, pL, pW, pI, plines, pwant⟩ := caseOk_parts hok
  have c1 := fun W (hW : Below w.heap.size w W) => spec_CaseOk_c x r lo hbk W (GCase.good.below hr hW)
  rw [hok] at c1
  obtain ⟨u1, u2, u3, rfl, hwf, a1, a2, a3⟩ := hr
  have c2 := fun W (hW : Below w.heap.size w W) => l23Nums_c x.inputs (by omega) lo u2 W (a2.below IntR.good hW)
  obtain ⟨la, lc, rfl, ll, lm, h1⟩ := a1
  obtain ⟨ia, ic, rfl⟩ := a2.form
  obtain ⟨wa, wc, rfl, wl, wm, h3⟩ := a3
  have hhead := cat_head x.name
  have hfin : tB (catNl (caseLines x)) = tB (catNl (caseC x x.want.length)) ++ ⟨#[101, 110, 100, 10]⟩ := by rw [case_lines, cat_end]
  have hA0 : caseA x 0 = [[99, 97, 115, 101, 32] ++ bL x.name] := by unfold caseA; simp
  have hB0 : x.inputs.length = 0 → caseB x = caseA x x.lines.length := fun h => by unfold caseB; rw [if_pos h, List.append_nil]
  have hB1 : x.inputs.length ≠ 0 → tB (catNl (caseB x)) = tB (catNl (caseA x x.lines.length)) ++ ⟨#[60]⟩ ++ tB (Lib.join (numsOf x.inputs) [32]) ++ ⟨#[10]⟩ := fun h => by
    unfold caseB; rw [if_neg h]; exact cat_step _ 60 (tB (Lib.join (numsOf x.inputs) [32]))
  have hC0 : caseC x 0 = caseB x := by unfold caseC; simp
  generalize tB (Lib.join (numsOf x.inputs) [32]) = jn at *
  generalize hLL : x.lines.length = L at *
  generalize hII : x.inputs.length = I at *
  generalize hWW : x.want.length = W at *
  replace hLL := Lib.hid hLL; replace hWW := Lib.hid hWW; replace h1 := Lib.hid h1; replace h3 := Lib.hid h3
  replace plines := Lib.hid plines; replace pwant := Lib.hid pwant
  replace hA0 := Lib.hid hA0; replace hB0 := Lib.hid hB0; replace hB1 := Lib.hid hB1; replace hC0 := Lib.hid hC0
  replace hfin := Lib.hid hfin; replace hhead := Lib.hid hhead; replace c1 := Lib.hid c1; replace c2 := Lib.hid c2
  clear hII hok hwf a2 hbk
  generalize hnm : x.name = nm at *
  have l1 : (9223372036854775807 < 5 + nm.size) = False := by simp; omega
  have l2 : (9223372036854775807 < 5 + nm.size + 1) = False := by simp; omega
  clear hnm
  go_enter Try.func5, Try.ntmps5
  go_upto_region 1 with fail
  have C : RowAt (w.alloc (.cells #[.string nm, .slice la L lc, .slice ia I ic, .slice wa W wc] 28)) (w.heap.size) 0 [.string nm, .slice la L lc, .slice ia I ic, .slice wa W wc] := RowAt.box w #[.string nm, .slice la L lc, .slice ia I ic, .slice wa W wc] 28
  have hw : Below w.heap.size w (w.alloc (.cells #[.string nm, .slice la L lc, .slice ia I ic, .slice wa W wc] 28)) := by go_grown
  generalize (w.alloc (.cells #[.string nm, .slice la L lc, .slice ia I ic, .slice wa W wc] 28)) = w0 at *
  obtain ⟨c_0, c_1, c_2, c_3⟩ := C.box4; have hsC := World.block_lt_of_cell? _ _ c_0; dsimp only at hsC
  go_wp2_with (go_at_call 11; ((with_reducible refine (c1.out _ hw).mono ?_); rintro e w1 ⟨rfl, hb⟩; have hw := hw.trans (hb.mono hw.size); have C := C.below hb; obtain ⟨c_0, c_1, c_2, c_3⟩ := C.box4; have hsC := World.block_lt_of_cell? _ _ c_0; dsimp only at hsC; clear hb))
  go_loopw [3, 18] (fun v i wr => ∃ (k : Nat) (o : ByteArray), k ≤ L ∧ i = .int .i64 k ∧ v = .string o ∧ Hid (o = tB (catNl (caseA x k))) ∧ o.size ≤ 100 + 300 * k ∧ Below w.heap.size w wr ∧ RowAt wr w.heap.size 0 [.string nm, .slice la L lc, .slice ia I ic, .slice wa W wc]) (fun _ i _ => L - (intOf i).toNat)
  case atStart => exact ⟨0, _, by omega, rfl, rfl, by show _ = _; rw [hA0.out, hhead.out], by rw [ByteArray.size_append, ByteArray.size_append]; show 5 + nm.size + 1 ≤ _; omega, hw, C⟩
  case round =>
    clear hw C c_0 c_1 c_2 c_3 hsC
    obtain ⟨k, o, hk, rfl, rfl, ho, hs, hw, C⟩ := hrel
    obtain ⟨c_0, c_1, c_2, c_3⟩ := C.box4; have hsC := World.block_lt_of_cell? _ _ c_0; dsimp only at hsC
    by_cases hlt : k < L
    · obtain ⟨b1, o1, s, r, _, rfl, P1, ⟨rfl, _⟩, r1⟩ := (h1.out.below StrR.good hw).get (Lib.hid hLL.out.symm) hlt
      have e0 : wr.cell? ⟨b1, o1 + k, none⟩ = some (.string s) := by simpa using r1 0 _ rfl
      have hsz := plines.out s (List.mem_of_getElem? P1.out)
      have hst : tB (catNl (caseA x (k + 1))) = o ++ ⟨#[62]⟩ ++ s ++ ⟨#[10]⟩ := by rw [caseA_step P1.out, cat_step, ← ho.out]
      have hs2 : (o ++ ⟨#[62]⟩ ++ s ++ ⟨#[10]⟩).size ≤ 100 + 300 * (k + 1) := by rw [ByteArray.size_append, ByteArray.size_append, ByteArray.size_append]; show o.size + 1 + s.size + 1 ≤ _; omega
      have m1 : (9223372036854775807 < o.size + 1) = False := by simp; omega
      have m2 : (9223372036854775807 < o.size + 1 + s.size) = False := by simp; omega
      have m3 : (9223372036854775807 < o.size + 1 + s.size + 1) = False := by simp; omega
      replace hst := Lib.hid hst; replace hs2 := Lib.hid hs2
      clear r1 P1
      go_wp2_with fail
      go_roundw
      case rel => exact ⟨k + 1, _, by omega, by go_num, rfl, hst.out.symm, hs2.out, hw, C⟩
      case measure => simp [intOf]; omega
    · obtain rfl : L = k := by omega
      by_cases hI : I = 0
      · have ho2 : o = tB (catNl (caseB x)) := by rw [hB0.out hI]; exact ho.out
        replace ho2 := Lib.hid ho2
        have hs2 : o.size ≤ 40000 := by omega
        have hd : decide ((0 : Int) < (I : Int)) = false := decide_eq_false (by omega)
        have hd' : decide (0 < I) = false := decide_eq_false (by omega)
        clear ho hs hI
        go_wp2_with fail
        go_loopw [3, 42] (fun v i wr => ∃ (k : Nat) (o : ByteArray), k ≤ W ∧ i = .int .i64 k ∧ v = .string o ∧ Hid (o = tB (catNl (caseC x k))) ∧ o.size ≤ 40000 + 300 * k ∧ Below w.heap.size w wr ∧ RowAt wr w.heap.size 0 [.string nm, .slice la L lc, .slice ia I ic, .slice wa W wc]) (fun _ i _ => W - (intOf i).toNat)
        case atStart => exact ⟨0, o, by omega, rfl, rfl, by show _ = _; rw [hC0.out]; exact ho2.out, by omega, hw, C⟩
        case round =>
          clear hw C c_0 c_1 c_2 c_3 hsC ho2 hs2
          obtain ⟨k, o, hk, rfl, rfl, ho, hs, hw, C⟩ := hrel
          obtain ⟨c_0, c_1, c_2, c_3⟩ := C.box4; have hsC := World.block_lt_of_cell? _ _ c_0; dsimp only at hsC
          by_cases hlt : k < W
          · obtain ⟨b1, o1, s, r, _, rfl, P1, ⟨rfl, _⟩, r1⟩ := (h3.out.below StrR.good hw).get (Lib.hid hWW.out.symm) hlt
            have e0 : wr.cell? ⟨b1, o1 + k, none⟩ = some (.string s) := by simpa using r1 0 _ rfl
            have hsz := pwant.out s (List.mem_of_getElem? P1.out)
            have hst : tB (catNl (caseC x (k + 1))) = o ++ ⟨#[61]⟩ ++ s ++ ⟨#[10]⟩ := by rw [caseC_step P1.out, cat_step, ← ho.out]
            have hs2 : (o ++ ⟨#[61]⟩ ++ s ++ ⟨#[10]⟩).size ≤ 40000 + 300 * (k + 1) := by rw [ByteArray.size_append, ByteArray.size_append, ByteArray.size_append]; show o.size + 1 + s.size + 1 ≤ _; omega
            have m1 : (9223372036854775807 < o.size + 1) = False := by simp; omega
            have m2 : (9223372036854775807 < o.size + 1 + s.size) = False := by simp; omega
            have m3 : (9223372036854775807 < o.size + 1 + s.size + 1) = False := by simp; omega
            replace hst := Lib.hid hst; replace hs2 := Lib.hid hs2
            clear r1 P1
            go_wp2_with fail
            go_roundw
            case rel => exact ⟨k + 1, _, by omega, by go_num, rfl, hst.out.symm, hs2.out, hw, C⟩
            case measure => simp [intOf]; omega
          · obtain rfl : k = W := by omega
            have m1 : (9223372036854775807 < o.size + 4) = False := by simp; omega
            have hf : Hid (tB (catNl (caseLines x)) = o ++ ⟨#[101, 110, 100, 10]⟩) := by show _ = _; rw [hfin.out, ← ho.out]
            clear ho
            go_wp2_with fail
            go_returns
            exact ⟨by rw [hf.out]; rfl, hw⟩
      · have ho2 : o ++ ⟨#[60]⟩ ++ jn ++ ⟨#[10]⟩ = tB (catNl (caseB x)) := by rw [hB1.out hI, ← ho.out]
        replace ho2 := Lib.hid ho2
        have hd : decide ((0 : Int) < (I : Int)) = true := decide_eq_true (by omega)
        have hd' : decide (0 < I) = true := decide_eq_true (by omega)
        have hjs : jn.size ≤ 1050 → (o ++ ⟨#[60]⟩ ++ jn ++ ⟨#[10]⟩).size ≤ 40000 := fun h => by rw [ByteArray.size_append, ByteArray.size_append, ByteArray.size_append]; show o.size + 1 + jn.size + 1 ≤ _; omega
        have m1 : (9223372036854775807 < o.size + 1) = False := by simp; omega
        have hm2 : jn.size ≤ 1050 → (9223372036854775807 < o.size + 1 + jn.size) = False := fun h => by simp; omega
        have hm3 : jn.size ≤ 1050 → (9223372036854775807 < o.size + 1 + jn.size + 1) = False := fun h => by simp; omega
        replace hm2 := Lib.hid hm2; replace hm3 := Lib.hid hm3; replace hjs := Lib.hid hjs
        clear ho hs hI
        go_wp2_with fail
        refine (c2.out _ hw).mono ?_
        rintro e w1 ⟨rfl, hj, hb⟩
        have hj' : jn.size ≤ 1050 := by omega
        have m2 := hm2.out hj'
        have m3 := hm3.out hj'
        have hw := hw.trans (hb.mono hw.size); have C := C.below hb; obtain ⟨c_0, c_1, c_2, c_3⟩ := C.box4; have hsC := World.block_lt_of_cell? _ _ c_0; dsimp only at hsC; clear hb
        go_wp2_with fail
        have hs2 := hjs.out hj'
        clear m1 m2 m3 hm2 hm3 hjs hj hj'
        generalize o ++ ⟨#[60]⟩ ++ jn ++ ⟨#[10]⟩ = o at *
        go_loopw [3, 42] (fun v i wr => ∃ (k : Nat) (o : ByteArray), k ≤ W ∧ i = .int .i64 k ∧ v = .string o ∧ Hid (o = tB (catNl (caseC x k))) ∧ o.size ≤ 40000 + 300 * k ∧ Below w.heap.size w wr ∧ RowAt wr w.heap.size 0 [.string nm, .slice la L lc, .slice ia I ic, .slice wa W wc]) (fun _ i _ => W - (intOf i).toNat)
        case atStart => exact ⟨0, o, by omega, rfl, rfl, by show _ = _; rw [hC0.out]; exact ho2.out, by omega, hw, C⟩
        case round =>
          clear hw C c_0 c_1 c_2 c_3 hsC ho2 hs2
          obtain ⟨k, o, hk, rfl, rfl, ho, hs, hw, C⟩ := hrel
          obtain ⟨c_0, c_1, c_2, c_3⟩ := C.box4; have hsC := World.block_lt_of_cell? _ _ c_0; dsimp only at hsC
          by_cases hlt : k < W
          · obtain ⟨b1, o1, s, r, _, rfl, P1, ⟨rfl, _⟩, r1⟩ := (h3.out.below StrR.good hw).get (Lib.hid hWW.out.symm) hlt
            have e0 : wr.cell? ⟨b1, o1 + k, none⟩ = some (.string s) := by simpa using r1 0 _ rfl
            have hsz := pwant.out s (List.mem_of_getElem? P1.out)
            have hst : tB (catNl (caseC x (k + 1))) = o ++ ⟨#[61]⟩ ++ s ++ ⟨#[10]⟩ := by rw [caseC_step P1.out, cat_step, ← ho.out]
            have hs2 : (o ++ ⟨#[61]⟩ ++ s ++ ⟨#[10]⟩).size ≤ 40000 + 300 * (k + 1) := by rw [ByteArray.size_append, ByteArray.size_append, ByteArray.size_append]; show o.size + 1 + s.size + 1 ≤ _; omega
            have m1 : (9223372036854775807 < o.size + 1) = False := by simp; omega
            have m2 : (9223372036854775807 < o.size + 1 + s.size) = False := by simp; omega
            have m3 : (9223372036854775807 < o.size + 1 + s.size + 1) = False := by simp; omega
            replace hst := Lib.hid hst; replace hs2 := Lib.hid hs2
            clear r1 P1
            go_wp2_with fail
            go_roundw
            case rel => exact ⟨k + 1, _, by omega, by go_num, rfl, hst.out.symm, hs2.out, hw, C⟩
            case measure => simp [intOf]; omega
          · obtain rfl : k = W := by omega
            have m1 : (9223372036854775807 < o.size + 4) = False := by simp; omega
            have hf : Hid (tB (catNl (caseLines x)) = o ++ ⟨#[101, 110, 100, 10]⟩) := by show _ = _; rw [hfin.out, ← ho.out]
            clear ho
            go_wp2_with fail
            go_returns
            exact ⟨by rw [hf.out]; rfl, hw⟩

end Go.Proofs.Ytigacgfaliicaaa
