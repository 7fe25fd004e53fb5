/- Parts of the proof, merged: Same2. -/
import Derived.Test.YtklfepnokidnaaaSc35
/- SameCode of both. -/
namespace Go.Proofs.Ytklfepnokidnaaa
open Go.RowKit
set_option linter.unusedVariables false
set_option linter.unusedSimpArgs false
attribute [local go_sem] Ext.cell

def codeText (c : GCode) : ByteArray := if codeOk c = true then codeLines c.ins c.ins.length else ByteArray.empty
theorem ins_small {c : GCode} (h : c.bulk ≤ 1048576) : ∀ x ∈ c.ins, x.s.size ≤ 1048576 := fun x hx => by
  obtain ⟨i, hi, rfl⟩ := List.getElem_of_mem hx
  have h5 := le_bulkS (f := GIns.bulk) GIns.bulk_nonneg (List.getElem?_eq_getElem hi)
  have h2 := bulkS_nonneg GPat.bulk_nonneg c.pats
  unfold GCode.bulk at h
  have h6 : GIns.bulk c.ins[i] = (c.ins[i].s.size : Int) := rfl
  omega
theorem pat_small {c : GCode} (h : c.bulk ≤ 1048576) : ∀ q ∈ c.pats, (patD q).bulk ≤ 1048576 := fun q hq => by
  obtain ⟨i, hi, rfl⟩ := List.getElem_of_mem hq
  have h5 := le_bulkS (f := GPat.bulk) GPat.bulk_nonneg (List.getElem?_eq_getElem hi)
  have h2 := bulkS_nonneg GIns.bulk_nonneg c.ins
  unfold GCode.bulk at h
  have h6 : (patD c.pats[i]).bulk = GPat.bulk c.pats[i] := by
    unfold GData.bulk GPat.bulk patD bulkS
    rw [List.length_map, List.map_map]
    rfl
  omega
theorem CodeText_c (c : GCode) (hbk : c.bulk ≤ 1048576) (r : List Value) (lo : Nat) (w : World) (hr : GCode.R lo w r c) :
    Calls Try.prog 17 #[.agg r.toArray] w fun e w' => e = .returned (.string (codeText c)) ∧ Below w.heap.size w w' :=
  CodeText_w c (codeOk c) (ins_small hbk) (fun h => by obtain ⟨_, h2, _, h4⟩ := codeOk_all h; exact ⟨h2, fun x hx => insOk_op (h4 x hx)⟩) r lo w hr fun W hW => CodeOk_c c (codeCopy_bulk hbk).small r lo W (GCode.good.below hr hW)
theorem specCodeText_c (c : GCode) (hbk : c.bulk ≤ 1048576) (r : List Value) (lo : Nat) (w : World) (hr : GCode.R lo w r c) :
    Calls Try.prog 12 #[.agg r.toArray] w fun e w' => e = .returned (.string (codeText c)) ∧ Below w.heap.size w w' :=
  specCodeText_w c (codeOk c) (ins_small hbk) (fun h => by obtain ⟨_, h2, _, h4⟩ := codeOk_all h; exact ⟨h2, fun x hx => ⟨insOk_op (h4 x hx), insOk_s (h4 x hx)⟩⟩) r lo w hr fun W hW => specCodeOk_c c (codeCopy_bulk hbk).small r lo W (GCode.good.below hr hW)
def samePat (x y : GPat) : Bool := (patText (patD x)).toList == (patText (patD y)).toList
def sameP (a b : GCode) : Bool := codeOk a && (codeOk b && (((codeText a).toList == (codeText b).toList) && eqBy samePat a.pats b.pats))

set_option maxRecDepth 100000 in
set_option maxHeartbeats 8000000 in
theorem samePat_c (x y : GPat) (hx : (patD x).bulk ≤ 1048576) (hy : (patD y).bulk ≤ 1048576) (r s : List Value) (lo : Nat) (w : World) (hr : GPat.R lo w r x) (hs : GPat.R lo w s y) :
    Calls Try.prog 19 (#[.agg r.toArray, .agg s.toArray] ++ #[]) w fun e w' => e = .returned (.bool (samePat x y)) ∧ Below w.heap.size w w' := by
  have c1 := fun W (hW : Below w.heap.size w W) => impl_PrintPat_c (patD x) r lo hx W (GData.good.below (GPat.toData hr) hW)
  have c2 := fun W (hW : Below w.heap.size w W) => impl_PrintPat_c (patD y) s lo hy W (GData.good.below (GPat.toData hs) hW)
  obtain ⟨u0, rfl, hxf⟩ := hr
  obtain ⟨v0, rfl, hyf⟩ := hs
  obtain ⟨ka, kc, rfl⟩ := hxf.2.form
  obtain ⟨la, lc, rfl⟩ := hyf.2.form
  clear hxf hyf hx hy
  have hres : samePat x y = ((patText (patD x)).toList == (patText (patD y)).toList) := rfl
  generalize samePat x y = R at *
  generalize patText (patD x) = A at *
  generalize patText (patD y) = B at *
  generalize x.nodes.length = nx at *
  generalize y.nodes.length = ny at *
  replace c1 := Lib.hid c1; replace c2 := Lib.hid c2; replace hres := Lib.hid hres
  go_enter Try.func19, Try.ntmps19
  go_upto_region 1 with fail
  have X : RowAt (w.alloc (.cells #[.slice ka nx kc] 41)) (w.heap.size) 0 [.slice ka nx kc] := RowAt.box w #[.slice ka nx kc] 41
  have X := X.below (show Below (w.alloc (.cells #[.slice ka nx kc] 41)).heap.size (w.alloc (.cells #[.slice ka nx kc] 41)) ((w.alloc (.cells #[.slice ka nx kc] 41)).alloc (.cells #[.slice la ny lc] 41)) by go_grown)
  have Y : RowAt ((w.alloc (.cells #[.slice ka nx kc] 41)).alloc (.cells #[.slice la ny lc] 41)) (w.heap.size + 1) 0 [.slice la ny lc] := by have h := RowAt.box (w.alloc (.cells #[.slice ka nx kc] 41)) #[.slice la ny lc] 41; simp only [World.size_alloc] at h; exact h
  have hw : Below w.heap.size w ((w.alloc (.cells #[.slice ka nx kc] 41)).alloc (.cells #[.slice la ny lc] 41)) := by go_grown
  generalize ((w.alloc (.cells #[.slice ka nx kc] 41)).alloc (.cells #[.slice la ny lc] 41)) = w0 at *
  have x_0 := X.box1; have hsX := World.block_lt_of_cell? _ _ x_0; dsimp only at hsX; have y_0 := Y.box1; have hsY := World.block_lt_of_cell? _ _ y_0; dsimp only at hsY
  go_region_law (first
    | (go_simp; go_at_call 20; (with_reducible refine (c1.out _ (hw.trans (by go_grown))).mono ?_); rintro e w4 ⟨rfl, hb⟩; have hb4 : Below w0.heap.size w0 w4 := Below.trans (by go_grown) (hb.mono (by go_grown)); have hw4 := hw.trans (hb4.mono hw.size); have X4 := X.below hb4; have Y4 := Y.below hb4; have x4_0 := X4.box1; have hsX4 := World.block_lt_of_cell? _ _ x4_0; dsimp only at hsX4; have y4_0 := Y4.box1; have hsY4 := World.block_lt_of_cell? _ _ y4_0; dsimp only at hsY4; clear hb)
    | (go_simp; go_at_call 20; (with_reducible refine (c2.out _ hw4).mono ?_); rintro e w5 ⟨rfl, hb⟩; have hw5 := hw4.trans (hb.mono hw4.size); clear hb))
  all_goals go_wp2_with fail
  all_goals go_returns
  all_goals exact ⟨by rw [hres.out]; rfl, hw5⟩

theorem same_no1 {x y : GCode} (h : codeOk x = false) : sameP x y = false := by unfold sameP; rw [h]; rfl
theorem same_no2 {x y : GCode} (h : codeOk y = false) : sameP x y = false := by unfold sameP; rw [h]; simp
theorem same_no3 {x y : GCode} (h : ((codeText x).toList == (codeText y).toList) = false) : sameP x y = false := by unfold sameP; rw [h]; simp
theorem same_yes {x y : GCode} (h1 : codeOk x = true) (h2 : codeOk y = true) (h : ((codeText x).toList == (codeText y).toList) = true) : sameP x y = eqBy samePat x.pats y.pats := by unfold sameP; rw [h1, h2, h]; rfl

set_option maxRecDepth 100000 in
set_option maxHeartbeats 16000000 in
theorem impl_SameCode_c (x : GCode) (r : List Value) (lo : Nat) (y : GCode) (s : List Value) (lo' : Nat) (hbx : x.bulk ≤ 1048576) (hby : y.bulk ≤ 1048576) (w : World) (hr : GCode.R lo w r x) (hs : GCode.R lo' w s y) :
    Calls Try.prog 7 #[.agg r.toArray, .agg s.toArray] w fun e w' => e = .returned (.bool (sameP x y)) ∧ Below w.heap.size w w' := by
  have kA := fun W (hW : Below w.heap.size w W) => CodeOk_c x (codeCopy_bulk hbx).small r lo W (GCode.good.below hr hW)
  have kB := fun W (hW : Below w.heap.size w W) => CodeOk_c y (codeCopy_bulk hby).small s lo' W (GCode.good.below hs hW)
  have tA := fun W (hW : Below w.heap.size w W) => CodeText_c x hbx r lo W (GCode.good.below hr hW)
  have tB := fun W (hW : Below w.heap.size w W) => CodeText_c y hby s lo' W (GCode.good.below hs hW)
  have hpx := pat_small hbx
  have hpy := pat_small hby
  obtain ⟨u0, u1, rfl, _, h0, h1⟩ := hr
  obtain ⟨v0, v1, rfl, _, g0, g1⟩ := hs
  have hE := fun W (hW : Below w.heap.size w W) => equalFuncPat_c x.pats y.pats samePat 19 #[] 0 u1 v1 W ((h1.below GPat.good hW).mono GPat.good (Nat.zero_le _)) ((g1.below GPat.good hW).mono GPat.good (Nat.zero_le _)) (fun i p q r s W' hp hq _ hr hs => samePat_c p q (hpx p (List.mem_of_getElem? hp)) (hpy q (List.mem_of_getElem? hq)) r s 0 W' hr hs) (fun _ _ => rfl)
  obtain ⟨ia, ic, rfl⟩ := h0.form
  obtain ⟨pa, pc, rfl⟩ := h1.form
  obtain ⟨ja, jc, rfl⟩ := g0.form
  obtain ⟨qa, qc, rfl⟩ := g1.form
  clear h0 h1 g0 g1 hpx hpy
  have n1 := @same_no1 x y
  have n2 := @same_no2 x y
  have n3 := @same_no3 x y
  have n4 := @same_yes x y
  generalize sameP x y = R at *
  generalize eqBy samePat x.pats y.pats = E at *
  generalize codeText x = tx at *
  generalize codeText y = ty at *
  generalize hkx : codeOk x = ox at *
  generalize hky : codeOk y = oy at *
  generalize x.ins.length = n at *
  generalize x.pats.length = m at *
  generalize y.ins.length = n' at *
  generalize y.pats.length = m' at *
  clear hkx hky hbx hby
  replace hE := Lib.hid hE; replace tA := Lib.hid tA; replace tB := Lib.hid tB
  cases ox
  · have hres := n1 rfl
    clear n1 n2 n3 n4
    replace kA := Lib.hid kA; replace kB := Lib.hid kB; replace hres := Lib.hid hres
    go_enter Try.func7, Try.ntmps7
    go_upto_region 1 with fail
    have A : RowAt (w.alloc (.cells #[.slice ia n ic, .slice pa m pc] 31)) (w.heap.size) 0 [.slice ia n ic, .slice pa m pc] := RowAt.box w #[.slice ia n ic, .slice pa m pc] 31
    have A := A.below (show Below (w.alloc (.cells #[.slice ia n ic, .slice pa m pc] 31)).heap.size (w.alloc (.cells #[.slice ia n ic, .slice pa m pc] 31)) ((w.alloc (.cells #[.slice ia n ic, .slice pa m pc] 31)).alloc (.cells #[.slice ja n' jc, .slice qa m' qc] 31)) by go_grown)
    have D : RowAt ((w.alloc (.cells #[.slice ia n ic, .slice pa m pc] 31)).alloc (.cells #[.slice ja n' jc, .slice qa m' qc] 31)) (w.heap.size + 1) 0 [.slice ja n' jc, .slice qa m' qc] := by have h := RowAt.box (w.alloc (.cells #[.slice ia n ic, .slice pa m pc] 31)) #[.slice ja n' jc, .slice qa m' qc] 31; simp only [World.size_alloc] at h; exact h
    have hw : Below w.heap.size w ((w.alloc (.cells #[.slice ia n ic, .slice pa m pc] 31)).alloc (.cells #[.slice ja n' jc, .slice qa m' qc] 31)) := by go_grown
    generalize ((w.alloc (.cells #[.slice ia n ic, .slice pa m pc] 31)).alloc (.cells #[.slice ja n' jc, .slice qa m' qc] 31)) = w0 at *
    obtain ⟨a_0, a_1⟩ := A.box2; have hsA := World.block_lt_of_cell? _ _ a_0; dsimp only at hsA; obtain ⟨d_0, d_1⟩ := D.box2; have hsD := World.block_lt_of_cell? _ _ d_0; dsimp only at hsD
    go_region_law (first
      | (go_simp; go_at_call 16; (with_reducible refine (kA.out _ (hw.trans (by go_grown))).mono ?_); rintro e w4 ⟨rfl, hb⟩; have hb4 : Below w0.heap.size w0 w4 := Below.trans (by go_grown) (hb.mono (by go_grown)); have hw4 := hw.trans (hb4.mono hw.size); have A4 := A.below hb4; have D4 := D.below hb4; obtain ⟨a4_0, a4_1⟩ := A4.box2; have hsA4 := World.block_lt_of_cell? _ _ a4_0; dsimp only at hsA4; obtain ⟨d4_0, d4_1⟩ := D4.box2; have hsD4 := World.block_lt_of_cell? _ _ d4_0; dsimp only at hsD4; clear hb)
      | (go_simp; go_at_call 16; (with_reducible refine (kB.out _ hw4).mono ?_); rintro e w5 ⟨rfl, hb⟩; have hb5 : Below w0.heap.size w0 w5 := hb4.trans (hb.mono hb4.size); have hw5 := hw.trans (hb5.mono hw.size); have A5 := A.below hb5; have D5 := D.below hb5; obtain ⟨a5_0, a5_1⟩ := A5.box2; have hsA5 := World.block_lt_of_cell? _ _ a5_0; dsimp only at hsA5; obtain ⟨d5_0, d5_1⟩ := D5.box2; have hsD5 := World.block_lt_of_cell? _ _ d5_0; dsimp only at hsD5; clear hb)
      | (go_simp; go_at_call 17; (with_reducible refine (tA.out _ hw5).mono ?_); rintro e w6 ⟨rfl, hb⟩; have hb6 : Below w0.heap.size w0 w6 := hb5.trans (hb.mono hb5.size); have hw6 := hw.trans (hb6.mono hw.size); have A6 := A.below hb6; have D6 := D.below hb6; obtain ⟨a6_0, a6_1⟩ := A6.box2; have hsA6 := World.block_lt_of_cell? _ _ a6_0; dsimp only at hsA6; obtain ⟨d6_0, d6_1⟩ := D6.box2; have hsD6 := World.block_lt_of_cell? _ _ d6_0; dsimp only at hsD6; clear hb)
      | (go_simp; go_at_call 17; (with_reducible refine (tB.out _ hw6).mono ?_); rintro e w7 ⟨rfl, hb⟩; have hb7 : Below w0.heap.size w0 w7 := hb6.trans (hb.mono hb6.size); have hw7 := hw.trans (hb7.mono hw.size); have A7 := A.below hb7; have D7 := D.below hb7; obtain ⟨a7_0, a7_1⟩ := A7.box2; have hsA7 := World.block_lt_of_cell? _ _ a7_0; dsimp only at hsA7; obtain ⟨d7_0, d7_1⟩ := D7.box2; have hsD7 := World.block_lt_of_cell? _ _ d7_0; dsimp only at hsD7; clear hb))
    all_goals go_wp2_with fail
    all_goals go_returns
    all_goals exact ⟨by rw [hres.out]; rfl, hw4⟩
  cases oy
  · have hres := n2 rfl
    clear n1 n2 n3 n4
    replace kA := Lib.hid kA; replace kB := Lib.hid kB; replace hres := Lib.hid hres
    go_enter Try.func7, Try.ntmps7
    go_upto_region 1 with fail
    have A : RowAt (w.alloc (.cells #[.slice ia n ic, .slice pa m pc] 31)) (w.heap.size) 0 [.slice ia n ic, .slice pa m pc] := RowAt.box w #[.slice ia n ic, .slice pa m pc] 31
    have A := A.below (show Below (w.alloc (.cells #[.slice ia n ic, .slice pa m pc] 31)).heap.size (w.alloc (.cells #[.slice ia n ic, .slice pa m pc] 31)) ((w.alloc (.cells #[.slice ia n ic, .slice pa m pc] 31)).alloc (.cells #[.slice ja n' jc, .slice qa m' qc] 31)) by go_grown)
    have D : RowAt ((w.alloc (.cells #[.slice ia n ic, .slice pa m pc] 31)).alloc (.cells #[.slice ja n' jc, .slice qa m' qc] 31)) (w.heap.size + 1) 0 [.slice ja n' jc, .slice qa m' qc] := by have h := RowAt.box (w.alloc (.cells #[.slice ia n ic, .slice pa m pc] 31)) #[.slice ja n' jc, .slice qa m' qc] 31; simp only [World.size_alloc] at h; exact h
    have hw : Below w.heap.size w ((w.alloc (.cells #[.slice ia n ic, .slice pa m pc] 31)).alloc (.cells #[.slice ja n' jc, .slice qa m' qc] 31)) := by go_grown
    generalize ((w.alloc (.cells #[.slice ia n ic, .slice pa m pc] 31)).alloc (.cells #[.slice ja n' jc, .slice qa m' qc] 31)) = w0 at *
    obtain ⟨a_0, a_1⟩ := A.box2; have hsA := World.block_lt_of_cell? _ _ a_0; dsimp only at hsA; obtain ⟨d_0, d_1⟩ := D.box2; have hsD := World.block_lt_of_cell? _ _ d_0; dsimp only at hsD
    go_region_law (first
      | (go_simp; go_at_call 16; (with_reducible refine (kA.out _ (hw.trans (by go_grown))).mono ?_); rintro e w4 ⟨rfl, hb⟩; have hb4 : Below w0.heap.size w0 w4 := Below.trans (by go_grown) (hb.mono (by go_grown)); have hw4 := hw.trans (hb4.mono hw.size); have A4 := A.below hb4; have D4 := D.below hb4; obtain ⟨a4_0, a4_1⟩ := A4.box2; have hsA4 := World.block_lt_of_cell? _ _ a4_0; dsimp only at hsA4; obtain ⟨d4_0, d4_1⟩ := D4.box2; have hsD4 := World.block_lt_of_cell? _ _ d4_0; dsimp only at hsD4; clear hb)
      | (go_simp; go_at_call 16; (with_reducible refine (kB.out _ hw4).mono ?_); rintro e w5 ⟨rfl, hb⟩; have hb5 : Below w0.heap.size w0 w5 := hb4.trans (hb.mono hb4.size); have hw5 := hw.trans (hb5.mono hw.size); have A5 := A.below hb5; have D5 := D.below hb5; obtain ⟨a5_0, a5_1⟩ := A5.box2; have hsA5 := World.block_lt_of_cell? _ _ a5_0; dsimp only at hsA5; obtain ⟨d5_0, d5_1⟩ := D5.box2; have hsD5 := World.block_lt_of_cell? _ _ d5_0; dsimp only at hsD5; clear hb)
      | (go_simp; go_at_call 17; (with_reducible refine (tA.out _ hw5).mono ?_); rintro e w6 ⟨rfl, hb⟩; have hb6 : Below w0.heap.size w0 w6 := hb5.trans (hb.mono hb5.size); have hw6 := hw.trans (hb6.mono hw.size); have A6 := A.below hb6; have D6 := D.below hb6; obtain ⟨a6_0, a6_1⟩ := A6.box2; have hsA6 := World.block_lt_of_cell? _ _ a6_0; dsimp only at hsA6; obtain ⟨d6_0, d6_1⟩ := D6.box2; have hsD6 := World.block_lt_of_cell? _ _ d6_0; dsimp only at hsD6; clear hb)
      | (go_simp; go_at_call 17; (with_reducible refine (tB.out _ hw6).mono ?_); rintro e w7 ⟨rfl, hb⟩; have hb7 : Below w0.heap.size w0 w7 := hb6.trans (hb.mono hb6.size); have hw7 := hw.trans (hb7.mono hw.size); have A7 := A.below hb7; have D7 := D.below hb7; obtain ⟨a7_0, a7_1⟩ := A7.box2; have hsA7 := World.block_lt_of_cell? _ _ a7_0; dsimp only at hsA7; obtain ⟨d7_0, d7_1⟩ := D7.box2; have hsD7 := World.block_lt_of_cell? _ _ d7_0; dsimp only at hsD7; clear hb))
    all_goals go_wp2_with fail
    all_goals go_returns
    all_goals exact ⟨by rw [hres.out]; rfl, hw5⟩
  cases hqt : (tx.toList == ty.toList)
  · have hres := n3 hqt
    have hqt2 : ¬ tx.toList = ty.toList := by simpa using hqt
    clear n1 n2 n3 n4
    replace kA := Lib.hid kA; replace kB := Lib.hid kB; replace hres := Lib.hid hres
    go_enter Try.func7, Try.ntmps7
    go_upto_region 1 with fail
    have A : RowAt (w.alloc (.cells #[.slice ia n ic, .slice pa m pc] 31)) (w.heap.size) 0 [.slice ia n ic, .slice pa m pc] := RowAt.box w #[.slice ia n ic, .slice pa m pc] 31
    have A := A.below (show Below (w.alloc (.cells #[.slice ia n ic, .slice pa m pc] 31)).heap.size (w.alloc (.cells #[.slice ia n ic, .slice pa m pc] 31)) ((w.alloc (.cells #[.slice ia n ic, .slice pa m pc] 31)).alloc (.cells #[.slice ja n' jc, .slice qa m' qc] 31)) by go_grown)
    have D : RowAt ((w.alloc (.cells #[.slice ia n ic, .slice pa m pc] 31)).alloc (.cells #[.slice ja n' jc, .slice qa m' qc] 31)) (w.heap.size + 1) 0 [.slice ja n' jc, .slice qa m' qc] := by have h := RowAt.box (w.alloc (.cells #[.slice ia n ic, .slice pa m pc] 31)) #[.slice ja n' jc, .slice qa m' qc] 31; simp only [World.size_alloc] at h; exact h
    have hw : Below w.heap.size w ((w.alloc (.cells #[.slice ia n ic, .slice pa m pc] 31)).alloc (.cells #[.slice ja n' jc, .slice qa m' qc] 31)) := by go_grown
    generalize ((w.alloc (.cells #[.slice ia n ic, .slice pa m pc] 31)).alloc (.cells #[.slice ja n' jc, .slice qa m' qc] 31)) = w0 at *
    obtain ⟨a_0, a_1⟩ := A.box2; have hsA := World.block_lt_of_cell? _ _ a_0; dsimp only at hsA; obtain ⟨d_0, d_1⟩ := D.box2; have hsD := World.block_lt_of_cell? _ _ d_0; dsimp only at hsD
    go_region_law (first
      | (go_simp; go_at_call 16; (with_reducible refine (kA.out _ (hw.trans (by go_grown))).mono ?_); rintro e w4 ⟨rfl, hb⟩; have hb4 : Below w0.heap.size w0 w4 := Below.trans (by go_grown) (hb.mono (by go_grown)); have hw4 := hw.trans (hb4.mono hw.size); have A4 := A.below hb4; have D4 := D.below hb4; obtain ⟨a4_0, a4_1⟩ := A4.box2; have hsA4 := World.block_lt_of_cell? _ _ a4_0; dsimp only at hsA4; obtain ⟨d4_0, d4_1⟩ := D4.box2; have hsD4 := World.block_lt_of_cell? _ _ d4_0; dsimp only at hsD4; clear hb)
      | (go_simp; go_at_call 16; (with_reducible refine (kB.out _ hw4).mono ?_); rintro e w5 ⟨rfl, hb⟩; have hb5 : Below w0.heap.size w0 w5 := hb4.trans (hb.mono hb4.size); have hw5 := hw.trans (hb5.mono hw.size); have A5 := A.below hb5; have D5 := D.below hb5; obtain ⟨a5_0, a5_1⟩ := A5.box2; have hsA5 := World.block_lt_of_cell? _ _ a5_0; dsimp only at hsA5; obtain ⟨d5_0, d5_1⟩ := D5.box2; have hsD5 := World.block_lt_of_cell? _ _ d5_0; dsimp only at hsD5; clear hb)
      | (go_simp; go_at_call 17; (with_reducible refine (tA.out _ hw5).mono ?_); rintro e w6 ⟨rfl, hb⟩; have hb6 : Below w0.heap.size w0 w6 := hb5.trans (hb.mono hb5.size); have hw6 := hw.trans (hb6.mono hw.size); have A6 := A.below hb6; have D6 := D.below hb6; obtain ⟨a6_0, a6_1⟩ := A6.box2; have hsA6 := World.block_lt_of_cell? _ _ a6_0; dsimp only at hsA6; obtain ⟨d6_0, d6_1⟩ := D6.box2; have hsD6 := World.block_lt_of_cell? _ _ d6_0; dsimp only at hsD6; clear hb)
      | (go_simp; go_at_call 17; (with_reducible refine (tB.out _ hw6).mono ?_); rintro e w7 ⟨rfl, hb⟩; have hb7 : Below w0.heap.size w0 w7 := hb6.trans (hb.mono hb6.size); have hw7 := hw.trans (hb7.mono hw.size); have A7 := A.below hb7; have D7 := D.below hb7; obtain ⟨a7_0, a7_1⟩ := A7.box2; have hsA7 := World.block_lt_of_cell? _ _ a7_0; dsimp only at hsA7; obtain ⟨d7_0, d7_1⟩ := D7.box2; have hsD7 := World.block_lt_of_cell? _ _ d7_0; dsimp only at hsD7; clear hb))
    all_goals go_wp2_with fail
    all_goals go_returns
    all_goals exact ⟨by rw [hres.out]; rfl, hw7⟩
  · have hres := n4 rfl rfl hqt
    have hqt2 : tx.toList = ty.toList := by simpa using hqt
    clear n1 n2 n3 n4
    replace kA := Lib.hid kA; replace kB := Lib.hid kB; replace hres := Lib.hid hres; replace hqt2 := Lib.hid hqt2
    go_enter Try.func7, Try.ntmps7
    go_upto_region 1 with fail
    have A : RowAt (w.alloc (.cells #[.slice ia n ic, .slice pa m pc] 31)) (w.heap.size) 0 [.slice ia n ic, .slice pa m pc] := RowAt.box w #[.slice ia n ic, .slice pa m pc] 31
    have A := A.below (show Below (w.alloc (.cells #[.slice ia n ic, .slice pa m pc] 31)).heap.size (w.alloc (.cells #[.slice ia n ic, .slice pa m pc] 31)) ((w.alloc (.cells #[.slice ia n ic, .slice pa m pc] 31)).alloc (.cells #[.slice ja n' jc, .slice qa m' qc] 31)) by go_grown)
    have D : RowAt ((w.alloc (.cells #[.slice ia n ic, .slice pa m pc] 31)).alloc (.cells #[.slice ja n' jc, .slice qa m' qc] 31)) (w.heap.size + 1) 0 [.slice ja n' jc, .slice qa m' qc] := by have h := RowAt.box (w.alloc (.cells #[.slice ia n ic, .slice pa m pc] 31)) #[.slice ja n' jc, .slice qa m' qc] 31; simp only [World.size_alloc] at h; exact h
    have hw : Below w.heap.size w ((w.alloc (.cells #[.slice ia n ic, .slice pa m pc] 31)).alloc (.cells #[.slice ja n' jc, .slice qa m' qc] 31)) := by go_grown
    generalize ((w.alloc (.cells #[.slice ia n ic, .slice pa m pc] 31)).alloc (.cells #[.slice ja n' jc, .slice qa m' qc] 31)) = w0 at *
    obtain ⟨a_0, a_1⟩ := A.box2; have hsA := World.block_lt_of_cell? _ _ a_0; dsimp only at hsA; obtain ⟨d_0, d_1⟩ := D.box2; have hsD := World.block_lt_of_cell? _ _ d_0; dsimp only at hsD
    go_region_law (first
      | (go_simp; go_at_call 16; (with_reducible refine (kA.out _ (hw.trans (by go_grown))).mono ?_); rintro e w4 ⟨rfl, hb⟩; have hb4 : Below w0.heap.size w0 w4 := Below.trans (by go_grown) (hb.mono (by go_grown)); have hw4 := hw.trans (hb4.mono hw.size); have A4 := A.below hb4; have D4 := D.below hb4; obtain ⟨a4_0, a4_1⟩ := A4.box2; have hsA4 := World.block_lt_of_cell? _ _ a4_0; dsimp only at hsA4; obtain ⟨d4_0, d4_1⟩ := D4.box2; have hsD4 := World.block_lt_of_cell? _ _ d4_0; dsimp only at hsD4; clear hb)
      | (go_simp; go_at_call 16; (with_reducible refine (kB.out _ hw4).mono ?_); rintro e w5 ⟨rfl, hb⟩; have hb5 : Below w0.heap.size w0 w5 := hb4.trans (hb.mono hb4.size); have hw5 := hw.trans (hb5.mono hw.size); have A5 := A.below hb5; have D5 := D.below hb5; obtain ⟨a5_0, a5_1⟩ := A5.box2; have hsA5 := World.block_lt_of_cell? _ _ a5_0; dsimp only at hsA5; obtain ⟨d5_0, d5_1⟩ := D5.box2; have hsD5 := World.block_lt_of_cell? _ _ d5_0; dsimp only at hsD5; clear hb)
      | (go_simp; go_at_call 17; (with_reducible refine (tA.out _ hw5).mono ?_); rintro e w6 ⟨rfl, hb⟩; have hb6 : Below w0.heap.size w0 w6 := hb5.trans (hb.mono hb5.size); have hw6 := hw.trans (hb6.mono hw.size); have A6 := A.below hb6; have D6 := D.below hb6; obtain ⟨a6_0, a6_1⟩ := A6.box2; have hsA6 := World.block_lt_of_cell? _ _ a6_0; dsimp only at hsA6; obtain ⟨d6_0, d6_1⟩ := D6.box2; have hsD6 := World.block_lt_of_cell? _ _ d6_0; dsimp only at hsD6; clear hb)
      | (go_simp; go_at_call 17; (with_reducible refine (tB.out _ hw6).mono ?_); rintro e w7 ⟨rfl, hb⟩; have hb7 : Below w0.heap.size w0 w7 := hb6.trans (hb.mono hb6.size); have hw7 := hw.trans (hb7.mono hw.size); have A7 := A.below hb7; have D7 := D.below hb7; obtain ⟨a7_0, a7_1⟩ := A7.box2; have hsA7 := World.block_lt_of_cell? _ _ a7_0; dsimp only at hsA7; obtain ⟨d7_0, d7_1⟩ := D7.box2; have hsD7 := World.block_lt_of_cell? _ _ d7_0; dsimp only at hsD7; clear hb))
    all_goals go_wp2_with (go_at_call 18; (with_reducible refine (hE.out _ hw7).mono ?_); rintro e w8 ⟨rfl, hb⟩)
    all_goals go_returns
    all_goals exact ⟨by rw [hres.out]; rfl, hw7.trans (hb.mono hw7.size)⟩

end Go.Proofs.Ytklfepnokidnaaa
