/- Parts of the proof, merged: Strip, CodeLaw0. -/
import Derived.Test.YtfobkbjabenkkaaGreatPe38
/- Strip: the program's. -/
namespace Go.Proofs.YtfobkbjabenkkaaGreat
open Go.RowKit
set_option linter.unusedVariables false
set_option linter.unusedSimpArgs false
attribute [local go_sem] Ext.cell

theorem reachedP_len (c : GCode) : (reachedP c).length ≤ c.ins.length := by
  unfold reachedP
  split
  · exact rcList_len _ _
  · exact Nat.zero_le _
noncomputable def stripP (c : GCode) : GCode := if codeOk c then keptP c (reachedP c) else ⟨[], []⟩

set_option maxRecDepth 100000 in
set_option maxHeartbeats 16000000 in
theorem Strip_o (c : GCode) (hS : CodeCopy c) (r : List Value) (lo : Nat) (w : World) (hr : GCode.R lo w r c) :
    Calls Tryz.prog 22 #[.agg r.toArray] w (CopyPost (stripP c) w) := by
  have cK := fun W (hW : Below w.heap.size w W) => CodeOk_c c hS.small r lo W (GCode.good.below hr hW)
  have cR := fun W (hW : Below w.heap.size w W) => Reached_c c hS r lo W (GCode.good.below hr hW)
  have cF := fun (u : Value) W (hl : (reachedP c).length ≤ 1048576) (hW : Below w.heap.size w W) (hu : Sl IntR 1 0 W u (reachedP c)) => kept_o c hS _ hl r u 0 W (GCode.good.mono (GCode.good.below hr hW) (Nat.zero_le _)) hu
  obtain ⟨u0, u1, rfl, _, h0, h1⟩ := hr
  obtain ⟨ia, ic, rfl⟩ := h0.form
  obtain ⟨pa, pc, rfl⟩ := h1.form
  clear h0 h1
  have hlen := reachedP_len c
  unfold stripP
  cases hq : codeOk c
  · rw [hq] at cK
    rw [if_neg (by decide)]
    clear hq cF cR hS hlen
    replace cK := Lib.hid cK
    generalize c.ins.length = n at *
    generalize c.pats.length = m at *
    go_enter Tryz.func22, Tryz.ntmps22
    go_upto_region 1 with fail
    have C : RowAt (w.alloc (.cells #[.slice ia n ic, .slice pa m pc] 30)) (w.heap.size) 0 [.slice ia n ic, .slice pa m pc] := RowAt.box w #[.slice ia n ic, .slice pa m pc] 30
    have C := C.below (show Below (w.alloc (.cells #[.slice ia n ic, .slice pa m pc] 30)).heap.size (w.alloc (.cells #[.slice ia n ic, .slice pa m pc] 30)) ((w.alloc (.cells #[.slice ia n ic, .slice pa m pc] 30)).alloc (.cells #[.slice none 0 0, .slice none 0 0] 30)) by go_grown)
    have E : RowAt ((w.alloc (.cells #[.slice ia n ic, .slice pa m pc] 30)).alloc (.cells #[.slice none 0 0, .slice none 0 0] 30)) (w.heap.size + 1) 0 [.slice none 0 0, .slice none 0 0] := by have h := RowAt.box (w.alloc (.cells #[.slice ia n ic, .slice pa m pc] 30)) #[.slice none 0 0, .slice none 0 0] 30; simp only [World.size_alloc] at h; exact h
    have EW : Wr ((w.alloc (.cells #[.slice ia n ic, .slice pa m pc] 30)).alloc (.cells #[.slice none 0 0, .slice none 0 0] 30)) (w.heap.size + 1) 0 2 := by have h := Wr.box (w.alloc (.cells #[.slice ia n ic, .slice pa m pc] 30)) #[.slice none 0 0, .slice none 0 0] 30; simp only [World.size_alloc] at h; exact h
    have hw : Below w.heap.size w ((w.alloc (.cells #[.slice ia n ic, .slice pa m pc] 30)).alloc (.cells #[.slice none 0 0, .slice none 0 0] 30)) := by go_grown
    generalize ((w.alloc (.cells #[.slice ia n ic, .slice pa m pc] 30)).alloc (.cells #[.slice none 0 0, .slice none 0 0] 30)) = w0 at *
    obtain ⟨c_0, c_1⟩ := C.box2; have hsC := World.block_lt_of_cell? _ _ c_0; dsimp only at hsC; have ef_0 := EW.frz 0 (by omega); have ef_1 := EW.frz 1 (by omega); obtain ⟨e_0, e_1⟩ := E.box2; have hsE := World.block_lt_of_cell? _ _ e_0; dsimp only at hsE
    go_wp2_with (go_at_call 20; ((with_reducible refine (cK.out _ hw).mono ?_); rintro e w1 ⟨rfl, hb⟩; have hw := hw.trans (hb.mono hw.size); have C := C.below hb; obtain ⟨c_0, c_1⟩ := C.box2; have hsC := World.block_lt_of_cell? _ _ c_0; dsimp only at hsC; have EW := EW.below hb; have ef_0 := EW.frz 0 (by omega); have ef_1 := EW.frz 1 (by omega); have E := E.below hb; obtain ⟨e_0, e_1⟩ := E.box2; have hsE := World.block_lt_of_cell? _ _ e_0; dsimp only at hsE; clear hb))
    obtain ⟨w9, hw9, g_0, g_1, k9, b9⟩ := set2_box (lo := w.heap.size) (.slice none 0 0) (.slice none 0 0) e_0 e_1 (by omega)
    rw [← hw9]
    refine bodyPost_ret (ret_code (a := 2) Tryz.results22 rfl g_0 g_1) rfl ?_
    exact CopyPost.zero (hw.trans b9)
  · rw [hq] at cK
    rw [if_pos rfl]
    obtain ⟨n1, n2, _, _⟩ := codeOk_all hq
    clear hq hS
    replace cF := fun u W => cF u W (by omega)
    generalize keptP c (reachedP c) = R at *
    generalize reachedP c = ps at *
    generalize c.ins.length = n at *
    generalize c.pats.length = m at *
    replace cK := Lib.hid cK; replace cR := Lib.hid cR; replace cF := Lib.hid cF
    go_enter Tryz.func22, Tryz.ntmps22
    go_upto_region 1 with fail
    have C : RowAt (w.alloc (.cells #[.slice ia n ic, .slice pa m pc] 30)) (w.heap.size) 0 [.slice ia n ic, .slice pa m pc] := RowAt.box w #[.slice ia n ic, .slice pa m pc] 30
    have C := C.below (show Below (w.alloc (.cells #[.slice ia n ic, .slice pa m pc] 30)).heap.size (w.alloc (.cells #[.slice ia n ic, .slice pa m pc] 30)) ((w.alloc (.cells #[.slice ia n ic, .slice pa m pc] 30)).alloc (.cells #[.slice none 0 0, .slice none 0 0] 30)) by go_grown)
    have E : RowAt ((w.alloc (.cells #[.slice ia n ic, .slice pa m pc] 30)).alloc (.cells #[.slice none 0 0, .slice none 0 0] 30)) (w.heap.size + 1) 0 [.slice none 0 0, .slice none 0 0] := by have h := RowAt.box (w.alloc (.cells #[.slice ia n ic, .slice pa m pc] 30)) #[.slice none 0 0, .slice none 0 0] 30; simp only [World.size_alloc] at h; exact h
    have EW : Wr ((w.alloc (.cells #[.slice ia n ic, .slice pa m pc] 30)).alloc (.cells #[.slice none 0 0, .slice none 0 0] 30)) (w.heap.size + 1) 0 2 := by have h := Wr.box (w.alloc (.cells #[.slice ia n ic, .slice pa m pc] 30)) #[.slice none 0 0, .slice none 0 0] 30; simp only [World.size_alloc] at h; exact h
    have hw : Below w.heap.size w ((w.alloc (.cells #[.slice ia n ic, .slice pa m pc] 30)).alloc (.cells #[.slice none 0 0, .slice none 0 0] 30)) := by go_grown
    generalize ((w.alloc (.cells #[.slice ia n ic, .slice pa m pc] 30)).alloc (.cells #[.slice none 0 0, .slice none 0 0] 30)) = w0 at *
    obtain ⟨c_0, c_1⟩ := C.box2; have hsC := World.block_lt_of_cell? _ _ c_0; dsimp only at hsC; have ef_0 := EW.frz 0 (by omega); have ef_1 := EW.frz 1 (by omega); obtain ⟨e_0, e_1⟩ := E.box2; have hsE := World.block_lt_of_cell? _ _ e_0; dsimp only at hsE
    go_upto_region 3 with (go_at_call 20; ((with_reducible refine (cK.out _ hw).mono ?_); rintro e w1 ⟨rfl, hb⟩; have hw := hw.trans (hb.mono hw.size); have C := C.below hb; obtain ⟨c_0, c_1⟩ := C.box2; have hsC := World.block_lt_of_cell? _ _ c_0; dsimp only at hsC; have EW := EW.below hb; have ef_0 := EW.frz 0 (by omega); have ef_1 := EW.frz 1 (by omega); have E := E.below hb; obtain ⟨e_0, e_1⟩ := E.box2; have hsE := World.block_lt_of_cell? _ _ e_0; dsimp only at hsE; clear hb))
    have hsE0 := hsE
    go_region_law (first
      | (go_simp; go_at_call 50; (with_reducible refine (cR.out _ (hw.trans (by go_grown))).mono ?_); rintro e w4 ⟨rv, rfl, hRv, hb⟩; have hb4 : Below w1.heap.size w1 w4 := (show Below w1.heap.size w1 w1.drew by go_grown).trans (hb.mono (by go_grown)); have C4 := C.below hb4; have E4 := E.below hb4; have E4W := EW.below hb4; have hw4 := hw.trans (hb4.mono hw.size); have hSl := hRv.mono IntR.good (Nat.zero_le _); clear hb hb4; obtain ⟨c4_0, c4_1⟩ := C4.box2; have hsC4 := World.block_lt_of_cell? _ _ c4_0; dsimp only at hsC4; have e4f_0 := E4W.frz 0 (by omega); have e4f_1 := E4W.frz 1 (by omega); obtain ⟨e4_0, e4_1⟩ := E4.box2; have hsE4 := World.block_lt_of_cell? _ _ e4_0; dsimp only at hsE4)
      | (go_simp; go_at_call 49; (with_reducible refine (cF.out _ _ hw4 hSl).mono ?_); rintro e w5 ⟨r', bs, rfl, O5, nd5, f5, hb⟩; obtain ⟨y0, q0, y1, q1, rfl, hbs, hwf3, t0, t1⟩ := O5; obtain ⟨ya, yc, rfl⟩ := t0.form; obtain ⟨yb, yd, rfl⟩ := t1.form; have O5 : GCode.O bs w5 [.slice ya R.ins.length yc, .slice yb R.pats.length yd] R := ⟨_, q0, _, q1, rfl, hbs, hwf3, t0, t1⟩; clear hbs t0 t1; have E5 := E4.below hb; have E5W := E4W.below hb; have hw5 := hw4.trans (hb.mono hw4.size); have hz45 := hw4.size; clear hb; have e5f_0 := E5W.frz 0 (by omega); have e5f_1 := E5W.frz 1 (by omega); obtain ⟨e5_0, e5_1⟩ := E5.box2; have hsE5 := World.block_lt_of_cell? _ _ e5_0; dsimp only at hsE5))
    all_goals
      replace O5 := Lib.hid O5; replace nd5 := Lib.hid nd5; replace f5 := Lib.hid f5
      go_wp2_with fail
      obtain ⟨w9, hw9, g_0, g_1, k9, b9⟩ := set2_box (lo := w.heap.size) (.slice ya R.ins.length yc) (.slice yb R.pats.length yd) e5_0 e5_1 (by omega)
      rw [← hw9]
      refine bodyPost_ret (ret_code (a := 2) Tryz.results22 rfl g_0 g_1) rfl ?_
      exact CopyPost.stored O5.out nd5.out (fun b hb => by have := f5.out b hb; omega) k9 (hw5.trans b9)

end Go.Proofs.YtfobkbjabenkkaaGreat

/- What the laws of codes need: bounds of the marks. -/
namespace Go.Proofs.YtfobkbjabenkkaaGreat
open Go.RowKit
set_option linter.unusedVariables false
set_option linter.unusedSimpArgs false

theorem codeCopy_bulk {c : GCode} (h : c.bulk ≤ 1048576) : CodeCopy c := by
  unfold GCode.bulk at h
  have h1 := bulkS_nonneg GIns.bulk_nonneg c.ins
  have h2 := bulkS_nonneg GPat.bulk_nonneg c.pats
  have h3 := length_le_bulkS (f := GIns.bulk) GIns.bulk_nonneg c.ins
  have h4 := length_le_bulkS (f := GPat.bulk) GPat.bulk_nonneg c.pats
  refine ⟨by omega, by omega, fun q hq => ?_⟩
  obtain ⟨i, hi, rfl⟩ := List.getElem_of_mem hq
  have h5 := le_bulkS (f := GPat.bulk) GPat.bulk_nonneg (List.getElem?_eq_getElem hi)
  have h6 : GPat.bulk c.pats[i] = bulkS GPNode.bulk c.pats[i].nodes := rfl
  have h7 := length_le_bulkS (f := GPNode.bulk) GPNode.bulk_nonneg c.pats[i].nodes
  refine ⟨by omega, fun x hx => ?_⟩
  obtain ⟨j, hj, rfl⟩ := List.getElem_of_mem hx
  have h8 := le_bulkS (f := GPNode.bulk) GPNode.bulk_nonneg (List.getElem?_eq_getElem hj)
  have h9 : GPNode.bulk c.pats[i].nodes[j] = (c.pats[i].nodes[j].s.size : Int) + (c.pats[i].nodes[j].kids.length : Int) := rfl
  omega
theorem cntL_bound {α : Type} (cnt : α → Nat) (K : Nat) : ∀ xs : List α, (∀ x ∈ xs, cnt x ≤ K) → cntL cnt xs ≤ xs.length * K
  | [], _ => by simp [cntL]
  | x :: xs, h => by
    have h1 := cntL_bound cnt K xs fun y hy => h y (by simp [hy])
    have h2 := h x (by simp)
    simp only [cntL, List.map_cons, List.sum_cons, List.length_cons, Nat.succ_mul] at *
    omega
theorem cnt_ok {c : GCode} (h : c.bulk ≤ 1048576) : (∀ d : GCode, d.ins.length ≤ c.ins.length → (d.pats = c.pats ∨ d.pats = []) → 1 + cntCode d ≤ 4611686018427387904 ∧ LenOkCode d) := by
  obtain ⟨h1, h2, h3⟩ := codeCopy_bulk h
  have hq : ∀ q ∈ c.pats, cntPat q ≤ 1048576 * 1048579 := fun q hq => by
    obtain ⟨h4, h5⟩ := h3 q hq
    have h6 : cntPat q ≤ q.nodes.length * 1048579 := cntL_bound _ _ _ fun x hx => by
      have h7 := h5 x hx
      have h8 : cntL cntInt x.kids ≤ x.kids.length * 1 := cntL_bound _ _ _ fun y _ => Nat.le_refl _
      unfold cntPNode; omega
    exact Nat.le_trans h6 (Nat.mul_le_mul_right _ h4)
  intro d hd hp
  have hi : cntL cntIns d.ins ≤ d.ins.length * 4 := cntL_bound _ _ _ fun x _ => Nat.le_refl _
  have hpp : cntL cntPat d.pats ≤ 1048576 * (1048576 * 1048579) := by
    rcases hp with hp | hp
    · rw [hp]; exact Nat.le_trans (cntL_bound _ _ _ hq) (Nat.mul_le_mul_right _ h2)
    · rw [hp]; simp [cntL]
  refine ⟨by unfold cntCode; omega, by unfold LenOkIns; omega, ?_⟩
  rcases hp with hp | hp
  · rw [hp]; exact ⟨by omega, fun q hq => ⟨by have := (h3 q hq).1; omega, fun x hx => by have := (h3 q hq).2 x hx; omega⟩⟩
  · rw [hp]; exact ⟨by simp, fun q hq => by cases hq⟩
theorem eqCode_eq (y : GCode) (r s : List Value) (lo lo' : Nat) (W : World) (h1 : GCode.R lo W r y) (h2 : GCode.R lo' W s y) :
    Calls Tryz.prog 8 #[.agg r.toArray, .agg s.toArray] W fun e W' => e = .returned (.bool true) ∧ Below W.heap.size W W' :=
  (eqCode_c y y r s lo lo' W h1 h2).mono fun e W' ⟨he, hb⟩ => ⟨by rw [he]; simp, hb⟩
/-- A result that has no more instructions, and the same patterns or none. -/
def CodeSub (c d : GCode) : Prop := d.ins.length ≤ c.ins.length ∧ (d.pats = c.pats ∨ d.pats = [])

end Go.Proofs.YtfobkbjabenkkaaGreat
