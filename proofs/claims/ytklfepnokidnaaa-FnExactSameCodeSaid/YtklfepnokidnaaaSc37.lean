/- Parts of the proof, merged: Same3. -/
import Derived.Test.YtklfepnokidnaaaSc36
/- SameCode: the reference's. -/
namespace Go.Proofs.Ytklfepnokidnaaa
open Go.RowKit
set_option linter.unusedVariables false
set_option linter.unusedSimpArgs false
attribute [local go_sem] Ext.cell

set_option maxRecDepth 100000 in
set_option maxHeartbeats 16000000 in
theorem spec_SameCode_c (x : GCode) (r : List Value) (lo : Nat) (y : GCode) (s : List Value) (lo' : Nat) (hbx : x.bulk ≤ 1048576) (hby : y.bulk ≤ 1048576) (w : World) (hr : GCode.R lo w r x) (hs : GCode.R lo' w s y) :
    Calls Try.prog 5 #[.agg r.toArray, .agg s.toArray] w fun e w' => e = .returned (.bool (sameP x y)) ∧ Below w.heap.size w w' := by
  have kA := fun W (hW : Below w.heap.size w W) => specCodeOk_c x (codeCopy_bulk hbx).small r lo W (GCode.good.below hr hW)
  have kB := fun W (hW : Below w.heap.size w W) => specCodeOk_c y (codeCopy_bulk hby).small s lo' W (GCode.good.below hs hW)
  have tA := fun W (hW : Below w.heap.size w W) => specCodeText_c x hbx r lo W (GCode.good.below hr hW)
  have tB := fun W (hW : Below w.heap.size w W) => specCodeText_c y hby s lo' W (GCode.good.below hs hW)
  have hpx := pat_small hbx
  have hpy := pat_small hby
  obtain ⟨u0, u1, rfl, _, h0, h1⟩ := hr
  obtain ⟨v0, v1, rfl, _, g0, g1⟩ := hs
  obtain ⟨ia, ic, rfl⟩ := h0.form
  obtain ⟨pa, pc, rfl, hml, hmc, H1⟩ := h1
  obtain ⟨ja, jc, rfl⟩ := g0.form
  obtain ⟨qa, qc, rfl, -, -, G1⟩ := g1
  clear h0 g0
  have hlen := @eqBy_len _ samePat x.pats y.pats
  have hbad := fun k p q => @eqBy_bad _ samePat x.pats y.pats k p q
  have hgood := @eqBy_good _ samePat x.pats y.pats
  have n1 := @same_no1 x y
  have n2 := @same_no2 x y
  have n3 := @same_no3 x y
  have n4 := @same_yes x y
  generalize sameP x y = R at *
  generalize eqBy samePat x.pats y.pats = E at *
  generalize codeText x = tx at *
  generalize codeText y = ty at *
  generalize hkx : codeOk x = ox at *
  generalize hky : codeOk y = oy at *
  generalize x.ins.length = n at *
  generalize hm : x.pats.length = m at *
  generalize y.ins.length = n' at *
  generalize hm' : y.pats.length = m' at *
  clear hkx hky hbx hby
  replace H1 := Lib.hid H1; replace G1 := Lib.hid G1; replace hpx := Lib.hid hpx; replace hpy := Lib.hid hpy; replace hm := Lib.hid hm; replace hm' := Lib.hid hm'; replace hlen := Lib.hid hlen; replace hbad := Lib.hid hbad; replace hgood := Lib.hid hgood; replace tA := Lib.hid tA; replace tB := Lib.hid tB
  cases ox
  · have hres := n1 rfl
    clear n1 n2 n3 n4
    replace kA := Lib.hid kA; replace kB := Lib.hid kB; replace hres := Lib.hid hres
    go_enter Try.func5, Try.ntmps5
    go_upto_region 1 with fail
    have A : RowAt (w.alloc (.cells #[.slice ia n ic, .slice pa m pc] 31)) (w.heap.size) 0 [.slice ia n ic, .slice pa m pc] := RowAt.box w #[.slice ia n ic, .slice pa m pc] 31
    have A := A.below (show Below (w.alloc (.cells #[.slice ia n ic, .slice pa m pc] 31)).heap.size (w.alloc (.cells #[.slice ia n ic, .slice pa m pc] 31)) ((w.alloc (.cells #[.slice ia n ic, .slice pa m pc] 31)).alloc (.cells #[.slice ja n' jc, .slice qa m' qc] 31)) by go_grown)
    have D : RowAt ((w.alloc (.cells #[.slice ia n ic, .slice pa m pc] 31)).alloc (.cells #[.slice ja n' jc, .slice qa m' qc] 31)) (w.heap.size + 1) 0 [.slice ja n' jc, .slice qa m' qc] := by have h := RowAt.box (w.alloc (.cells #[.slice ia n ic, .slice pa m pc] 31)) #[.slice ja n' jc, .slice qa m' qc] 31; simp only [World.size_alloc] at h; exact h
    have hw : Below w.heap.size w ((w.alloc (.cells #[.slice ia n ic, .slice pa m pc] 31)).alloc (.cells #[.slice ja n' jc, .slice qa m' qc] 31)) := by go_grown
    generalize ((w.alloc (.cells #[.slice ia n ic, .slice pa m pc] 31)).alloc (.cells #[.slice ja n' jc, .slice qa m' qc] 31)) = w0 at *
    obtain ⟨a_0, a_1⟩ := A.box2; have hsA := World.block_lt_of_cell? _ _ a_0; dsimp only at hsA; obtain ⟨d_0, d_1⟩ := D.box2; have hsD := World.block_lt_of_cell? _ _ d_0; dsimp only at hsD
    have k1 := fun W (hW : Below w0.heap.size w0 W) => kA.out W (hw.trans (hW.mono hw.size))
    have k2 := fun W (hW : Below w0.heap.size w0 W) => kB.out W (hw.trans (hW.mono hw.size))
    have k3 := fun W (hW : Below w0.heap.size w0 W) => tA.out W (hw.trans (hW.mono hw.size))
    have k4 := fun W (hW : Below w0.heap.size w0 W) => tB.out W (hw.trans (hW.mono hw.size))
    replace k1 := Lib.hid k1; replace k2 := Lib.hid k2; replace k3 := Lib.hid k3; replace k4 := Lib.hid k4
    (refine wp_region_ext_lit (by kernel_rfl) (by kernel_rfl) ?_; (repeat (any_goals (first | go_big_quiet_step ((first | (go_at_call 11; with_reducible exact Calls.ext (k1.out _ (Subtype.property _))) | (go_at_call 11; with_reducible exact Calls.ext (k2.out _ (Subtype.property _))) | (go_at_call 12; with_reducible exact Calls.ext (k3.out _ (Subtype.property _))) | (go_at_call 12; with_reducible exact Calls.ext (k4.out _ (Subtype.property _))))) | quiet_step ((first | (go_at_call 11; with_reducible exact Calls.ext (k1.out _ (Subtype.property _))) | (go_at_call 11; with_reducible exact Calls.ext (k2.out _ (Subtype.property _))) | (go_at_call 12; with_reducible exact Calls.ext (k3.out _ (Subtype.property _))) | (go_at_call 12; with_reducible exact Calls.ext (k4.out _ (Subtype.property _))))) | (refine wpQuiet_step (fun K hK => ?_); go_simp; split <;> (refine hK _ ?_; clear hK K))))); all_goals (refine wpQuiet_nil ?_; rintro w1 ⟨⟨w2, hb⟩, rfl⟩; have hw := hw.trans (hb.mono hw.size); have A := A.below hb; obtain ⟨a_0, a_1⟩ := A.box2; have hsA := World.block_lt_of_cell? _ _ a_0; dsimp only at hsA; have D := D.below hb; obtain ⟨d_0, d_1⟩ := D.box2; have hsD := World.block_lt_of_cell? _ _ d_0; dsimp only at hsD; clear hb))
    all_goals go_wp2_with fail
    all_goals go_returns
    all_goals exact ⟨by rw [hres.out]; rfl, hw⟩
  cases oy
  · have hres := n2 rfl
    clear n1 n2 n3 n4
    replace kA := Lib.hid kA; replace kB := Lib.hid kB; replace hres := Lib.hid hres
    go_enter Try.func5, Try.ntmps5
    go_upto_region 1 with fail
    have A : RowAt (w.alloc (.cells #[.slice ia n ic, .slice pa m pc] 31)) (w.heap.size) 0 [.slice ia n ic, .slice pa m pc] := RowAt.box w #[.slice ia n ic, .slice pa m pc] 31
    have A := A.below (show Below (w.alloc (.cells #[.slice ia n ic, .slice pa m pc] 31)).heap.size (w.alloc (.cells #[.slice ia n ic, .slice pa m pc] 31)) ((w.alloc (.cells #[.slice ia n ic, .slice pa m pc] 31)).alloc (.cells #[.slice ja n' jc, .slice qa m' qc] 31)) by go_grown)
    have D : RowAt ((w.alloc (.cells #[.slice ia n ic, .slice pa m pc] 31)).alloc (.cells #[.slice ja n' jc, .slice qa m' qc] 31)) (w.heap.size + 1) 0 [.slice ja n' jc, .slice qa m' qc] := by have h := RowAt.box (w.alloc (.cells #[.slice ia n ic, .slice pa m pc] 31)) #[.slice ja n' jc, .slice qa m' qc] 31; simp only [World.size_alloc] at h; exact h
    have hw : Below w.heap.size w ((w.alloc (.cells #[.slice ia n ic, .slice pa m pc] 31)).alloc (.cells #[.slice ja n' jc, .slice qa m' qc] 31)) := by go_grown
    generalize ((w.alloc (.cells #[.slice ia n ic, .slice pa m pc] 31)).alloc (.cells #[.slice ja n' jc, .slice qa m' qc] 31)) = w0 at *
    obtain ⟨a_0, a_1⟩ := A.box2; have hsA := World.block_lt_of_cell? _ _ a_0; dsimp only at hsA; obtain ⟨d_0, d_1⟩ := D.box2; have hsD := World.block_lt_of_cell? _ _ d_0; dsimp only at hsD
    have k1 := fun W (hW : Below w0.heap.size w0 W) => kA.out W (hw.trans (hW.mono hw.size))
    have k2 := fun W (hW : Below w0.heap.size w0 W) => kB.out W (hw.trans (hW.mono hw.size))
    have k3 := fun W (hW : Below w0.heap.size w0 W) => tA.out W (hw.trans (hW.mono hw.size))
    have k4 := fun W (hW : Below w0.heap.size w0 W) => tB.out W (hw.trans (hW.mono hw.size))
    replace k1 := Lib.hid k1; replace k2 := Lib.hid k2; replace k3 := Lib.hid k3; replace k4 := Lib.hid k4
    (refine wp_region_ext_lit (by kernel_rfl) (by kernel_rfl) ?_; (repeat (any_goals (first | go_big_quiet_step ((first | (go_at_call 11; with_reducible exact Calls.ext (k1.out _ (Subtype.property _))) | (go_at_call 11; with_reducible exact Calls.ext (k2.out _ (Subtype.property _))) | (go_at_call 12; with_reducible exact Calls.ext (k3.out _ (Subtype.property _))) | (go_at_call 12; with_reducible exact Calls.ext (k4.out _ (Subtype.property _))))) | quiet_step ((first | (go_at_call 11; with_reducible exact Calls.ext (k1.out _ (Subtype.property _))) | (go_at_call 11; with_reducible exact Calls.ext (k2.out _ (Subtype.property _))) | (go_at_call 12; with_reducible exact Calls.ext (k3.out _ (Subtype.property _))) | (go_at_call 12; with_reducible exact Calls.ext (k4.out _ (Subtype.property _))))) | (refine wpQuiet_step (fun K hK => ?_); go_simp; split <;> (refine hK _ ?_; clear hK K))))); all_goals (refine wpQuiet_nil ?_; rintro w1 ⟨⟨w2, hb⟩, rfl⟩; have hw := hw.trans (hb.mono hw.size); have A := A.below hb; obtain ⟨a_0, a_1⟩ := A.box2; have hsA := World.block_lt_of_cell? _ _ a_0; dsimp only at hsA; have D := D.below hb; obtain ⟨d_0, d_1⟩ := D.box2; have hsD := World.block_lt_of_cell? _ _ d_0; dsimp only at hsD; clear hb))
    all_goals go_wp2_with fail
    all_goals go_returns
    all_goals exact ⟨by rw [hres.out]; rfl, hw⟩
  cases hqt : (tx.toList == ty.toList)
  · have hres := n3 hqt
    have hqt2 : ¬ tx.toList = ty.toList := by simpa using hqt
    clear n1 n2 n3 n4
    replace kA := Lib.hid kA; replace kB := Lib.hid kB; replace hres := Lib.hid hres
    go_enter Try.func5, Try.ntmps5
    go_upto_region 1 with fail
    have A : RowAt (w.alloc (.cells #[.slice ia n ic, .slice pa m pc] 31)) (w.heap.size) 0 [.slice ia n ic, .slice pa m pc] := RowAt.box w #[.slice ia n ic, .slice pa m pc] 31
    have A := A.below (show Below (w.alloc (.cells #[.slice ia n ic, .slice pa m pc] 31)).heap.size (w.alloc (.cells #[.slice ia n ic, .slice pa m pc] 31)) ((w.alloc (.cells #[.slice ia n ic, .slice pa m pc] 31)).alloc (.cells #[.slice ja n' jc, .slice qa m' qc] 31)) by go_grown)
    have D : RowAt ((w.alloc (.cells #[.slice ia n ic, .slice pa m pc] 31)).alloc (.cells #[.slice ja n' jc, .slice qa m' qc] 31)) (w.heap.size + 1) 0 [.slice ja n' jc, .slice qa m' qc] := by have h := RowAt.box (w.alloc (.cells #[.slice ia n ic, .slice pa m pc] 31)) #[.slice ja n' jc, .slice qa m' qc] 31; simp only [World.size_alloc] at h; exact h
    have hw : Below w.heap.size w ((w.alloc (.cells #[.slice ia n ic, .slice pa m pc] 31)).alloc (.cells #[.slice ja n' jc, .slice qa m' qc] 31)) := by go_grown
    generalize ((w.alloc (.cells #[.slice ia n ic, .slice pa m pc] 31)).alloc (.cells #[.slice ja n' jc, .slice qa m' qc] 31)) = w0 at *
    obtain ⟨a_0, a_1⟩ := A.box2; have hsA := World.block_lt_of_cell? _ _ a_0; dsimp only at hsA; obtain ⟨d_0, d_1⟩ := D.box2; have hsD := World.block_lt_of_cell? _ _ d_0; dsimp only at hsD
    have k1 := fun W (hW : Below w0.heap.size w0 W) => kA.out W (hw.trans (hW.mono hw.size))
    have k2 := fun W (hW : Below w0.heap.size w0 W) => kB.out W (hw.trans (hW.mono hw.size))
    have k3 := fun W (hW : Below w0.heap.size w0 W) => tA.out W (hw.trans (hW.mono hw.size))
    have k4 := fun W (hW : Below w0.heap.size w0 W) => tB.out W (hw.trans (hW.mono hw.size))
    replace k1 := Lib.hid k1; replace k2 := Lib.hid k2; replace k3 := Lib.hid k3; replace k4 := Lib.hid k4
    (refine wp_region_ext_lit (by kernel_rfl) (by kernel_rfl) ?_; (repeat (any_goals (first | go_big_quiet_step ((first | (go_at_call 11; with_reducible exact Calls.ext (k1.out _ (Subtype.property _))) | (go_at_call 11; with_reducible exact Calls.ext (k2.out _ (Subtype.property _))) | (go_at_call 12; with_reducible exact Calls.ext (k3.out _ (Subtype.property _))) | (go_at_call 12; with_reducible exact Calls.ext (k4.out _ (Subtype.property _))))) | quiet_step ((first | (go_at_call 11; with_reducible exact Calls.ext (k1.out _ (Subtype.property _))) | (go_at_call 11; with_reducible exact Calls.ext (k2.out _ (Subtype.property _))) | (go_at_call 12; with_reducible exact Calls.ext (k3.out _ (Subtype.property _))) | (go_at_call 12; with_reducible exact Calls.ext (k4.out _ (Subtype.property _))))) | (refine wpQuiet_step (fun K hK => ?_); go_simp; split <;> (refine hK _ ?_; clear hK K))))); all_goals (refine wpQuiet_nil ?_; rintro w1 ⟨⟨w2, hb⟩, rfl⟩; have hw := hw.trans (hb.mono hw.size); have A := A.below hb; obtain ⟨a_0, a_1⟩ := A.box2; have hsA := World.block_lt_of_cell? _ _ a_0; dsimp only at hsA; have D := D.below hb; obtain ⟨d_0, d_1⟩ := D.box2; have hsD := World.block_lt_of_cell? _ _ d_0; dsimp only at hsD; clear hb))
    all_goals go_wp2_with fail
    all_goals go_returns
    all_goals exact ⟨by rw [hres.out]; rfl, hw⟩
  · have hres := n4 rfl rfl hqt
    have hqt2 : tx.toList = ty.toList := by simpa using hqt
    clear n1 n2 n3 n4
    replace kA := Lib.hid kA; replace kB := Lib.hid kB; replace hres := Lib.hid hres; replace hqt2 := Lib.hid hqt2
    by_cases hl : m = m'
    · have hgood2 := hgood.out hl
      subst hl
      replace hgood2 := Lib.hid hgood2
      go_enter Try.func5, Try.ntmps5
      go_upto_region 1 with fail
      have A : RowAt (w.alloc (.cells #[.slice ia n ic, .slice pa m pc] 31)) (w.heap.size) 0 [.slice ia n ic, .slice pa m pc] := RowAt.box w #[.slice ia n ic, .slice pa m pc] 31
      have A := A.below (show Below (w.alloc (.cells #[.slice ia n ic, .slice pa m pc] 31)).heap.size (w.alloc (.cells #[.slice ia n ic, .slice pa m pc] 31)) ((w.alloc (.cells #[.slice ia n ic, .slice pa m pc] 31)).alloc (.cells #[.slice ja n' jc, .slice qa m qc] 31)) by go_grown)
      have D : RowAt ((w.alloc (.cells #[.slice ia n ic, .slice pa m pc] 31)).alloc (.cells #[.slice ja n' jc, .slice qa m qc] 31)) (w.heap.size + 1) 0 [.slice ja n' jc, .slice qa m qc] := by have h := RowAt.box (w.alloc (.cells #[.slice ia n ic, .slice pa m pc] 31)) #[.slice ja n' jc, .slice qa m qc] 31; simp only [World.size_alloc] at h; exact h
      have hw : Below w.heap.size w ((w.alloc (.cells #[.slice ia n ic, .slice pa m pc] 31)).alloc (.cells #[.slice ja n' jc, .slice qa m qc] 31)) := by go_grown
      generalize ((w.alloc (.cells #[.slice ia n ic, .slice pa m pc] 31)).alloc (.cells #[.slice ja n' jc, .slice qa m qc] 31)) = w0 at *
      obtain ⟨a_0, a_1⟩ := A.box2; have hsA := World.block_lt_of_cell? _ _ a_0; dsimp only at hsA; obtain ⟨d_0, d_1⟩ := D.box2; have hsD := World.block_lt_of_cell? _ _ d_0; dsimp only at hsD
      go_cut [29] (fun v wx => v = .bool false ∧ Below w.heap.size w wx ∧ RowAt wx w.heap.size 0 [.slice ia n ic, .slice pa m pc] ∧ RowAt wx (w.heap.size + 1) 0 [.slice ja n' jc, .slice qa m qc])
      case first =>
        have k1 := fun W (hW : Below w0.heap.size w0 W) => kA.out W (hw.trans (hW.mono hw.size))
        have k2 := fun W (hW : Below w0.heap.size w0 W) => kB.out W (hw.trans (hW.mono hw.size))
        have k3 := fun W (hW : Below w0.heap.size w0 W) => tA.out W (hw.trans (hW.mono hw.size))
        have k4 := fun W (hW : Below w0.heap.size w0 W) => tB.out W (hw.trans (hW.mono hw.size))
        replace k1 := Lib.hid k1; replace k2 := Lib.hid k2; replace k3 := Lib.hid k3; replace k4 := Lib.hid k4
        (refine wp_region_ext_lit (by kernel_rfl) (by kernel_rfl) ?_; (repeat (any_goals (first | go_big_quiet_step ((first | (go_at_call 11; with_reducible exact Calls.ext (k1.out _ (Subtype.property _))) | (go_at_call 11; with_reducible exact Calls.ext (k2.out _ (Subtype.property _))) | (go_at_call 12; with_reducible exact Calls.ext (k3.out _ (Subtype.property _))) | (go_at_call 12; with_reducible exact Calls.ext (k4.out _ (Subtype.property _))))) | quiet_step ((first | (go_at_call 11; with_reducible exact Calls.ext (k1.out _ (Subtype.property _))) | (go_at_call 11; with_reducible exact Calls.ext (k2.out _ (Subtype.property _))) | (go_at_call 12; with_reducible exact Calls.ext (k3.out _ (Subtype.property _))) | (go_at_call 12; with_reducible exact Calls.ext (k4.out _ (Subtype.property _))))) | (refine wpQuiet_step (fun K hK => ?_); go_simp; split <;> (refine hK _ ?_; clear hK K))))); all_goals (refine wpQuiet_nil ?_; rintro w1 ⟨⟨w2, hb⟩, rfl⟩; have hw := hw.trans (hb.mono hw.size); have A := A.below hb; obtain ⟨a_0, a_1⟩ := A.box2; have hsA := World.block_lt_of_cell? _ _ a_0; dsimp only at hsA; have D := D.below hb; obtain ⟨d_0, d_1⟩ := D.box2; have hsD := World.block_lt_of_cell? _ _ d_0; dsimp only at hsD; clear hb))
        all_goals
          go_wp2_with fail
          go_meet
          exact ⟨rfl, hw, A, D⟩
      case rest =>
        obtain ⟨rfl, hw7, A7, D7⟩ := hcut
        obtain ⟨w7, rfl⟩ : ∃ W, W = wc := ⟨_, rfl⟩
        clear A D hw a_0 a_1 d_0 d_1 hsA hsD kA kB tA tB
        obtain ⟨a7_0, a7_1⟩ := A7.box2; have hsA7 := World.block_lt_of_cell? _ _ a7_0; dsimp only at hsA7; obtain ⟨d7_0, d7_1⟩ := D7.box2; have hsD7 := World.block_lt_of_cell? _ _ d7_0; dsimp only at hsD7
        go_wp2_with fail
        go_loopw [33] (fun i wr => ∃ k : Nat, k ≤ m ∧ i = .int .i64 k ∧ Below w.heap.size w wr ∧ RowAt wr w.heap.size 0 [.slice ia n ic, .slice pa m pc] ∧ RowAt wr (w.heap.size + 1) 0 [.slice ja n' jc, .slice qa m qc] ∧ Hid (∀ (j : Nat) (p q : GPat), j < k → x.pats[j]? = some p → y.pats[j]? = some q → samePat p q = true)) (fun i _ => m - (intOf i).toNat)
        case atStart => exact ⟨0, by omega, rfl, hw7, A7, D7, fun j p q hj => by omega⟩
        case round =>
          clear hw7 A7 D7 a7_0 a7_1 d7_0 d7_1 hsA7 hsD7
          obtain ⟨k, hk, rfl, hw, A, D, hF⟩ := hrel
          obtain ⟨a_0, a_1⟩ := A.box2; have hsA := World.block_lt_of_cell? _ _ a_0; dsimp only at hsA; obtain ⟨d_0, d_1⟩ := D.box2; have hsD := World.block_lt_of_cell? _ _ d_0; dsimp only at hsD
          by_cases hlt : k < m
          · obtain ⟨b1, o1, p, r, _, hab, P1, hx, r1⟩ := (H1.out.below GPat.good hw).get hm.out.symm hlt
            obtain ⟨b2, o2, q, s, _, hab2, P2, hy, r2⟩ := (G1.out.below GPat.good hw).get hm'.out.symm hlt
            subst hab; subst hab2
            obtain ⟨u0, rfl, hxf⟩ := id hx
            obtain ⟨v0, rfl, hyf⟩ := id hy
            obtain ⟨ka, kc, rfl⟩ := hxf.2.form
            obtain ⟨la, lc, rfl⟩ := hyf.2.form
            have e_0 := r1.cells1
            have f_0 := r2.cells1
            rw [Nat.mul_one] at e_0 f_0
            have p1 := fun W (hW : Below wr.heap.size wr W) => spec_PrintPat_c (patD p) _ _ (hpx.out p (List.mem_of_getElem? P1.out)) W (GData.good.below (GPat.toData hx) hW)
            have p2 := fun W (hW : Below wr.heap.size wr W) => spec_PrintPat_c (patD q) _ _ (hpy.out q (List.mem_of_getElem? P2.out)) W (GData.good.below (GPat.toData hy) hW)
            have hbk := hbad.out k p q P1.out P2.out
            have hsame : samePat p q = ((patText (patD p)).toList == (patText (patD q)).toList) := rfl
            clear r1 r2 hx hy hxf hyf
            generalize patText (patD p) = tp at *
            generalize patText (patD q) = tq at *
            generalize p.nodes.length = np at *
            generalize q.nodes.length = nq at *
            replace p1 := Lib.hid p1; replace p2 := Lib.hid p2
            cases hq : (tp.toList == tq.toList)
            · have hres2 : R = false := by rw [hres.out]; exact hbk (by rw [hsame]; exact hq)
              have hq2 : ¬ tp.toList = tq.toList := by simpa using hq
              replace hres2 := Lib.hid hres2
              clear hbk hsame
              go_upto_region 6 with fail
              go_region_law (first
                | (go_simp; go_at_call 13; (with_reducible refine (p1.out _ (by go_grown)).mono ?_); rintro e w8 ⟨rfl, hb⟩; have hb8 : Below wr.heap.size wr w8 := Below.trans (by go_grown) (hb.mono (by go_grown)); have A8 := A.below hb8; have D8 := D.below hb8; have f_8 := cell_below hb8 f_0; obtain ⟨a8_0, a8_1⟩ := A8.box2; have hsA8 := World.block_lt_of_cell? _ _ a8_0; dsimp only at hsA8; obtain ⟨d8_0, d8_1⟩ := D8.box2; have hsD8 := World.block_lt_of_cell? _ _ d8_0; dsimp only at hsD8; clear hb)
                | (go_simp; go_at_call 13; (with_reducible refine (p2.out _ hb8).mono ?_); rintro e w9 ⟨rfl, hb⟩; have hw9 := hw.trans ((hb8.trans (hb.mono hb8.size)).mono hw.size); clear hb))
              all_goals go_wp2_with fail
              all_goals go_returns
              all_goals exact ⟨by rw [hres2.out]; rfl, hw9⟩
            · have hF2 : ∀ (j : Nat) (p' q' : GPat), j < k + 1 → x.pats[j]? = some p' → y.pats[j]? = some q' → samePat p' q' = true := fun j p' q' hj hp' hq' => by
                rcases Nat.lt_or_eq_of_le (Nat.le_of_lt_succ hj) with h | rfl
                · exact hF.out j p' q' h hp' hq'
                · rw [P1.out] at hp'; rw [P2.out] at hq'
                  obtain rfl := Option.some.inj hp'; obtain rfl := Option.some.inj hq'
                  rw [hsame]; exact hq
              have hq2 : tp.toList = tq.toList := by simpa using hq
              replace hF2 := Lib.hid hF2; replace hq2 := Lib.hid hq2
              clear hbk hsame
              go_upto_region 6 with fail
              go_cut [48] (fun v wx => v = .bool false ∧ Below wr.heap.size wr wx)
              case first =>
                go_region_law (first
                  | (go_simp; go_at_call 13; (with_reducible refine (p1.out _ (by go_grown)).mono ?_); rintro e w8 ⟨rfl, hb⟩; have hb8 : Below wr.heap.size wr w8 := Below.trans (by go_grown) (hb.mono (by go_grown)); have A8 := A.below hb8; have D8 := D.below hb8; have f_8 := cell_below hb8 f_0; obtain ⟨a8_0, a8_1⟩ := A8.box2; have hsA8 := World.block_lt_of_cell? _ _ a8_0; dsimp only at hsA8; obtain ⟨d8_0, d8_1⟩ := D8.box2; have hsD8 := World.block_lt_of_cell? _ _ d8_0; dsimp only at hsD8; clear hb)
                  | (go_simp; go_at_call 13; (with_reducible refine (p2.out _ hb8).mono ?_); rintro e w9 ⟨rfl, hb⟩; have hb9 : Below wr.heap.size wr w9 := hb8.trans (hb.mono hb8.size); clear hb))
                all_goals
                  go_wp2_with fail
                  go_meet
                  exact ⟨rfl, hb9⟩
              case rest =>
                obtain ⟨rfl, hbc⟩ := hcut
                go_wp2_with fail
                go_roundw
                case rel => exact ⟨k + 1, by omega, by go_num, hw.trans (hbc.mono hw.size), A.below hbc, D.below hbc, hF2⟩
                case measure => simp [intOf]; omega
          · obtain rfl : k = m := by omega
            have hE := hgood2.out fun j p q hp hq => hF.out j p q (by rw [← hm.out]; exact (List.getElem?_eq_some_iff.1 hp).1) hp hq
            rw [hE] at hres
            go_wp2_with fail
            go_returns
            exact ⟨by rw [hres.out]; rfl, hw⟩
    · have hE := hlen.out hl
      rw [hE] at hres
      have d1 : ((m : Int) == (m' : Int)) = false := by simp; omega
      have d2 : ¬ (m : Int) = (m' : Int) := by omega
      go_enter Try.func5, Try.ntmps5
      go_upto_region 1 with fail
      have A : RowAt (w.alloc (.cells #[.slice ia n ic, .slice pa m pc] 31)) (w.heap.size) 0 [.slice ia n ic, .slice pa m pc] := RowAt.box w #[.slice ia n ic, .slice pa m pc] 31
      have A := A.below (show Below (w.alloc (.cells #[.slice ia n ic, .slice pa m pc] 31)).heap.size (w.alloc (.cells #[.slice ia n ic, .slice pa m pc] 31)) ((w.alloc (.cells #[.slice ia n ic, .slice pa m pc] 31)).alloc (.cells #[.slice ja n' jc, .slice qa m' qc] 31)) by go_grown)
      have D : RowAt ((w.alloc (.cells #[.slice ia n ic, .slice pa m pc] 31)).alloc (.cells #[.slice ja n' jc, .slice qa m' qc] 31)) (w.heap.size + 1) 0 [.slice ja n' jc, .slice qa m' qc] := by have h := RowAt.box (w.alloc (.cells #[.slice ia n ic, .slice pa m pc] 31)) #[.slice ja n' jc, .slice qa m' qc] 31; simp only [World.size_alloc] at h; exact h
      have hw : Below w.heap.size w ((w.alloc (.cells #[.slice ia n ic, .slice pa m pc] 31)).alloc (.cells #[.slice ja n' jc, .slice qa m' qc] 31)) := by go_grown
      generalize ((w.alloc (.cells #[.slice ia n ic, .slice pa m pc] 31)).alloc (.cells #[.slice ja n' jc, .slice qa m' qc] 31)) = w0 at *
      obtain ⟨a_0, a_1⟩ := A.box2; have hsA := World.block_lt_of_cell? _ _ a_0; dsimp only at hsA; obtain ⟨d_0, d_1⟩ := D.box2; have hsD := World.block_lt_of_cell? _ _ d_0; dsimp only at hsD
      have k1 := fun W (hW : Below w0.heap.size w0 W) => kA.out W (hw.trans (hW.mono hw.size))
      have k2 := fun W (hW : Below w0.heap.size w0 W) => kB.out W (hw.trans (hW.mono hw.size))
      have k3 := fun W (hW : Below w0.heap.size w0 W) => tA.out W (hw.trans (hW.mono hw.size))
      have k4 := fun W (hW : Below w0.heap.size w0 W) => tB.out W (hw.trans (hW.mono hw.size))
      replace k1 := Lib.hid k1; replace k2 := Lib.hid k2; replace k3 := Lib.hid k3; replace k4 := Lib.hid k4
      (refine wp_region_ext_lit (by kernel_rfl) (by kernel_rfl) ?_; (repeat (any_goals (first | go_big_quiet_step ((first | (go_at_call 11; with_reducible exact Calls.ext (k1.out _ (Subtype.property _))) | (go_at_call 11; with_reducible exact Calls.ext (k2.out _ (Subtype.property _))) | (go_at_call 12; with_reducible exact Calls.ext (k3.out _ (Subtype.property _))) | (go_at_call 12; with_reducible exact Calls.ext (k4.out _ (Subtype.property _))))) | quiet_step ((first | (go_at_call 11; with_reducible exact Calls.ext (k1.out _ (Subtype.property _))) | (go_at_call 11; with_reducible exact Calls.ext (k2.out _ (Subtype.property _))) | (go_at_call 12; with_reducible exact Calls.ext (k3.out _ (Subtype.property _))) | (go_at_call 12; with_reducible exact Calls.ext (k4.out _ (Subtype.property _))))) | (refine wpQuiet_step (fun K hK => ?_); go_simp; split <;> (refine hK _ ?_; clear hK K))))); all_goals (refine wpQuiet_nil ?_; rintro w1 ⟨⟨w2, hb⟩, rfl⟩; have hw := hw.trans (hb.mono hw.size); have A := A.below hb; obtain ⟨a_0, a_1⟩ := A.box2; have hsA := World.block_lt_of_cell? _ _ a_0; dsimp only at hsA; have D := D.below hb; obtain ⟨d_0, d_1⟩ := D.box2; have hsD := World.block_lt_of_cell? _ _ d_0; dsimp only at hsD; clear hb))
      all_goals go_wp2_with fail
      all_goals go_returns
      all_goals exact ⟨by rw [hres.out]; rfl, hw⟩

end Go.Proofs.Ytklfepnokidnaaa
