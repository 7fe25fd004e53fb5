/- Parts of the proof, merged: Idle. -/
import Derived.Test.YtfobkbjabenkkaaGreatPe36
/- Idle: the plain law; kept; the program's. -/
namespace Go.Proofs.YtfobkbjabenkkaaGreat
open Go.RowKit
set_option linter.unusedVariables false
set_option linter.unusedSimpArgs false
attribute [local go_sem] Ext.cell

/-- Instruction k does nothing. -/
def idleSkip (k : Nat) (x : GIns) : Bool := (x.op == 15 && x.a == 0) || (x.op == 12 && x.a == (k : Int) + 1)
def idlePl (is : List GIns) (k : Nat) : List Int := ((List.range k).filter fun (i : Nat) => !idleSkip i (is[i]?.getD ⟨0, 0, 0, ⟨#[]⟩⟩)).map fun (i : Nat) => (i : Int)
theorem idlePl_skip {is : List GIns} {k : Nat} {x : GIns} (hx : is[k]? = some x) (h : idleSkip k x = true) : idlePl is (k + 1) = idlePl is k := by
  unfold idlePl
  rw [List.range_succ, List.filter_append]
  simp [hx, h]
theorem idlePl_take {is : List GIns} {k : Nat} {x : GIns} (hx : is[k]? = some x) (h : idleSkip k x = false) : idlePl is (k + 1) = idlePl is k ++ [(k : Int)] := by
  unfold idlePl
  rw [List.range_succ, List.filter_append]
  simp [hx, h]
theorem idlePl_len (is : List GIns) (k : Nat) : (idlePl is k).length ≤ k := by
  unfold idlePl
  rw [List.length_map]
  exact Nat.le_trans (List.length_filter_le _ _) (by simp)
def keptP (c : GCode) (ps : List Int) : GCode := (keepP c ps).getD c
def idleP (c : GCode) : GCode := if codeOk c then keptP c (idlePl c.ins c.ins.length) else ⟨[], []⟩

theorem CopyPost.stored {d : GCode} {w w3 w9 : World} {bs : List Nat} {r : List Value} {g : Nat} (O : GCode.O bs w3 r d) (nd : bs.Nodup) (hf : ∀ b ∈ bs, w.heap.size ≤ b ∧ b ≠ g) (k9 : Kept (· = g) w3 w9) (hb : Below w.heap.size w w9) : CopyPost d w (.returned (.agg r.toArray)) w9 :=
  ⟨r, bs, rfl, GCode.ok.kept O k9 (fun b h e => (hf b h).2 e), nd, fun b h => (hf b h).1, hb⟩

set_option maxRecDepth 100000 in
set_option maxHeartbeats 8000000 in
theorem kept_o (c : GCode) (hS : CodeCopy c) (ps : List Int) (hPS : ps.length ≤ 1048576) (r : List Value) (u : Value) (lo : Nat) (w : World) (hr : GCode.R lo w r c) (hu : Sl IntR 1 lo w u ps) :
    Calls Tryz.prog 49 #[.agg r.toArray, u] w (CopyPost (keptP c ps) w) := by
  have cK := fun W (hW : Below w.heap.size w W) => Keep_o c hS ps hPS r u lo W (GCode.good.below hr hW) (hu.below IntR.good hW)
  have cC := fun W (hW : Below w.heap.size w W) => copyCode_o c hS r lo W (GCode.good.below hr hW)
  obtain ⟨u0, u1, rfl, _, h0, h1⟩ := hr
  obtain ⟨ia, ic, rfl⟩ := h0.form
  obtain ⟨pa, pc, rfl⟩ := h1.form
  obtain ⟨va, vc, rfl⟩ := hu.form
  clear h0 h1 hu hS
  unfold keptP
  generalize keepP c ps = K at *
  cases K with
  | none =>
    obtain ⟨n, hn⟩ : ∃ n, n = c.ins.length := ⟨_, rfl⟩
    obtain ⟨m, hm⟩ : ∃ m, m = c.pats.length := ⟨_, rfl⟩
    obtain ⟨np, hnp⟩ : ∃ m, m = ps.length := ⟨_, rfl⟩
    show Calls Tryz.prog 49 _ w (CopyPost c w)
    rw [← hn, ← hm] at cK cC ⊢
    rw [← hnp] at cK ⊢
    replace cK := Lib.hid cK; replace cC := Lib.hid cC; replace hn := Lib.hid hn; replace hm := Lib.hid hm
    clear hnp
    go_enter Tryz.func49, Tryz.ntmps49
    go_upto_region 1 with fail
    have C : RowAt (w.alloc (.cells #[.slice ia n ic, .slice pa m pc] 30)) (w.heap.size) 0 [.slice ia n ic, .slice pa m pc] := RowAt.box w #[.slice ia n ic, .slice pa m pc] 30
    have C := C.below (show Below (w.alloc (.cells #[.slice ia n ic, .slice pa m pc] 30)).heap.size (w.alloc (.cells #[.slice ia n ic, .slice pa m pc] 30)) ((w.alloc (.cells #[.slice ia n ic, .slice pa m pc] 30)).alloc (.cells #[.slice none 0 0, .slice none 0 0] 30)) by go_grown)
    have E : RowAt ((w.alloc (.cells #[.slice ia n ic, .slice pa m pc] 30)).alloc (.cells #[.slice none 0 0, .slice none 0 0] 30)) (w.heap.size + 1) 0 [.slice none 0 0, .slice none 0 0] := by have h := RowAt.box (w.alloc (.cells #[.slice ia n ic, .slice pa m pc] 30)) #[.slice none 0 0, .slice none 0 0] 30; simp only [World.size_alloc] at h; exact h
    have EW : Wr ((w.alloc (.cells #[.slice ia n ic, .slice pa m pc] 30)).alloc (.cells #[.slice none 0 0, .slice none 0 0] 30)) (w.heap.size + 1) 0 2 := by have h := Wr.box (w.alloc (.cells #[.slice ia n ic, .slice pa m pc] 30)) #[.slice none 0 0, .slice none 0 0] 30; simp only [World.size_alloc] at h; exact h
    have hw : Below w.heap.size w ((w.alloc (.cells #[.slice ia n ic, .slice pa m pc] 30)).alloc (.cells #[.slice none 0 0, .slice none 0 0] 30)) := by go_grown
    generalize ((w.alloc (.cells #[.slice ia n ic, .slice pa m pc] 30)).alloc (.cells #[.slice none 0 0, .slice none 0 0] 30)) = w0 at *
    obtain ⟨c_0, c_1⟩ := C.box2; have hsC := World.block_lt_of_cell? _ _ c_0; dsimp only at hsC; have ef_0 := EW.frz 0 (by omega); have ef_1 := EW.frz 1 (by omega); obtain ⟨e_0, e_1⟩ := E.box2; have hsE := World.block_lt_of_cell? _ _ e_0; dsimp only at hsE
    have hsE0 := hsE
    go_upto_region 3 with (go_at_call 81; (with_reducible refine (cK.out _ hw).mono ?_); rintro e w1 ⟨r', bs, rfl, O1, -, -, hb⟩; obtain ⟨v0, p0, v1, p1, rfl, rfl, _, s0, s1⟩ := O1; obtain ⟨xa, xc, rfl⟩ := s0.form; obtain ⟨xb, xd, rfl⟩ := s1.form; have hw := hw.trans (hb.mono hw.size); have C := C.below hb; obtain ⟨c_0, c_1⟩ := C.box2; have hsC := World.block_lt_of_cell? _ _ c_0; dsimp only at hsC; have EW := EW.below hb; have ef_0 := EW.frz 0 (by omega); have ef_1 := EW.frz 1 (by omega); have E := E.below hb; obtain ⟨e_0, e_1⟩ := E.box2; have hsE := World.block_lt_of_cell? _ _ e_0; dsimp only at hsE; clear hb)
    obtain ⟨w2, hW2⟩ : ∃ W, W = w1.alloc (.cells #[.slice xa 0 xc, .slice xb 0 xd] 30) := ⟨_, rfl⟩
    rw [← hW2]
    have hb2 : Below w1.heap.size w1 w2 := by rw [hW2]; go_grown
    clear hW2
    have C := C.below hb2
    have E := E.below hb2
    have EW := EW.below hb2
    have hw := hw.trans (hb2.mono hw.size)
    clear hb2 c_0 c_1 e_0 e_1 ef_0 ef_1 hsC hsE s0 s1
    obtain ⟨c_0, c_1⟩ := C.box2; have hsC := World.block_lt_of_cell? _ _ c_0; dsimp only at hsC; have ef_0 := EW.frz 0 (by omega); have ef_1 := EW.frz 1 (by omega); obtain ⟨e_0, e_1⟩ := E.box2; have hsE := World.block_lt_of_cell? _ _ e_0; dsimp only at hsE
    have hsE2 := hsE
    go_wp2_with (go_at_call 47; (with_reducible refine (cC.out _ hw).mono ?_); rintro e w3 ⟨r', bs, rfl, O3, nd3, f3, hb⟩; obtain ⟨y0, q0, y1, q1, rfl, hbs, hwf3, t0, t1⟩ := O3; obtain ⟨ya, yc, rfl⟩ := t0.form; obtain ⟨yb, yd, rfl⟩ := t1.form; have O3 : GCode.O bs w3 [.slice ya c.ins.length yc, .slice yb c.pats.length yd] c := ⟨_, q0, _, q1, rfl, hbs, hwf3, t0, t1⟩; clear hbs t0 t1; replace O3 := Lib.hid O3; replace nd3 := Lib.hid nd3; replace f3 := Lib.hid f3; have hz3 := hb.size; have hw := hw.trans (hb.mono hw.size); have C := C.below hb; obtain ⟨c_0, c_1⟩ := C.box2; have hsC := World.block_lt_of_cell? _ _ c_0; dsimp only at hsC; have EW := EW.below hb; have ef_0 := EW.frz 0 (by omega); have ef_1 := EW.frz 1 (by omega); have E := E.below hb; obtain ⟨e_0, e_1⟩ := E.box2; have hsE := World.block_lt_of_cell? _ _ e_0; dsimp only at hsE; clear hb)
    obtain ⟨w9, hw9, g_0, g_1, k9, b9⟩ := set2_box (lo := w.heap.size) (.slice ya c.ins.length yc) (.slice yb c.pats.length yd) e_0 e_1 (by omega)
    rw [← hw9]
    refine bodyPost_ret (ret_code (a := 4) Tryz.results49 rfl g_0 g_1) rfl ?_
    exact CopyPost.stored O3.out nd3.out (fun b hb => by have := f3.out b hb; omega) k9 (hw.trans b9)
  | some d =>
    show Calls Tryz.prog 49 _ w (CopyPost d w)
    clear cC
    obtain ⟨n, hn⟩ : ∃ n, n = c.ins.length := ⟨_, rfl⟩
    obtain ⟨m, hm⟩ : ∃ m, m = c.pats.length := ⟨_, rfl⟩
    obtain ⟨np, hnp⟩ : ∃ m, m = ps.length := ⟨_, rfl⟩
    rw [← hn, ← hm] at cK ⊢
    rw [← hnp] at cK ⊢
    replace cK := Lib.hid cK
    clear hnp hn hm
    go_enter Tryz.func49, Tryz.ntmps49
    go_upto_region 1 with fail
    have C : RowAt (w.alloc (.cells #[.slice ia n ic, .slice pa m pc] 30)) (w.heap.size) 0 [.slice ia n ic, .slice pa m pc] := RowAt.box w #[.slice ia n ic, .slice pa m pc] 30
    have C := C.below (show Below (w.alloc (.cells #[.slice ia n ic, .slice pa m pc] 30)).heap.size (w.alloc (.cells #[.slice ia n ic, .slice pa m pc] 30)) ((w.alloc (.cells #[.slice ia n ic, .slice pa m pc] 30)).alloc (.cells #[.slice none 0 0, .slice none 0 0] 30)) by go_grown)
    have E : RowAt ((w.alloc (.cells #[.slice ia n ic, .slice pa m pc] 30)).alloc (.cells #[.slice none 0 0, .slice none 0 0] 30)) (w.heap.size + 1) 0 [.slice none 0 0, .slice none 0 0] := by have h := RowAt.box (w.alloc (.cells #[.slice ia n ic, .slice pa m pc] 30)) #[.slice none 0 0, .slice none 0 0] 30; simp only [World.size_alloc] at h; exact h
    have EW : Wr ((w.alloc (.cells #[.slice ia n ic, .slice pa m pc] 30)).alloc (.cells #[.slice none 0 0, .slice none 0 0] 30)) (w.heap.size + 1) 0 2 := by have h := Wr.box (w.alloc (.cells #[.slice ia n ic, .slice pa m pc] 30)) #[.slice none 0 0, .slice none 0 0] 30; simp only [World.size_alloc] at h; exact h
    have hw : Below w.heap.size w ((w.alloc (.cells #[.slice ia n ic, .slice pa m pc] 30)).alloc (.cells #[.slice none 0 0, .slice none 0 0] 30)) := by go_grown
    generalize ((w.alloc (.cells #[.slice ia n ic, .slice pa m pc] 30)).alloc (.cells #[.slice none 0 0, .slice none 0 0] 30)) = w0 at *
    obtain ⟨c_0, c_1⟩ := C.box2; have hsC := World.block_lt_of_cell? _ _ c_0; dsimp only at hsC; have ef_0 := EW.frz 0 (by omega); have ef_1 := EW.frz 1 (by omega); obtain ⟨e_0, e_1⟩ := E.box2; have hsE := World.block_lt_of_cell? _ _ e_0; dsimp only at hsE
    have hsE0 := hsE
    go_upto_region 4 with (go_at_call 81; (with_reducible refine (cK.out _ hw).mono ?_); rintro e w1 ⟨r', bs, rfl, O1, nd1, f1, hb⟩; obtain ⟨y0, q0, y1, q1, rfl, hbs, hwf3, t0, t1⟩ := O1; obtain ⟨ya, yc, rfl⟩ := t0.form; obtain ⟨yb, yd, rfl⟩ := t1.form; have O1 : GCode.O bs w1 [.slice ya d.ins.length yc, .slice yb d.pats.length yd] d := ⟨_, q0, _, q1, rfl, hbs, hwf3, t0, t1⟩; clear hbs t0 t1; have hw := hw.trans (hb.mono hw.size); have C := C.below hb; obtain ⟨c_0, c_1⟩ := C.box2; have hsC := World.block_lt_of_cell? _ _ c_0; dsimp only at hsC; have EW := EW.below hb; have ef_0 := EW.frz 0 (by omega); have ef_1 := EW.frz 1 (by omega); have E := E.below hb; obtain ⟨e_0, e_1⟩ := E.box2; have hsE := World.block_lt_of_cell? _ _ e_0; dsimp only at hsE; clear hb)
    obtain ⟨w2, hW2⟩ : ∃ W, W = w1.alloc (.cells #[.slice ya d.ins.length yc, .slice yb d.pats.length yd] 30) := ⟨_, rfl⟩
    rw [← hW2]
    have hb2 : Below w1.heap.size w1 w2 := by rw [hW2]; go_grown
    have D : RowAt w2 w1.heap.size 0 [.slice ya d.ins.length yc, .slice yb d.pats.length yd] := by rw [hW2]; exact RowAt.box w1 #[_, _] _
    clear hW2
    have E := E.below hb2
    have EW := EW.below hb2
    have O2 := GCode.ok.below O1 hb2
    have hw := hw.trans (hb2.mono hw.size)
    clear hb2 c_0 c_1 e_0 e_1 ef_0 ef_1 hsC hsE O1
    replace O2 := Lib.hid O2; replace nd1 := Lib.hid nd1; replace f1 := Lib.hid f1
    obtain ⟨d_0, d_1⟩ := D.box2; have hsD := World.block_lt_of_cell? _ _ d_0; dsimp only at hsD; have ef_0 := EW.frz 0 (by omega); have ef_1 := EW.frz 1 (by omega); obtain ⟨e_0, e_1⟩ := E.box2; have hsE := World.block_lt_of_cell? _ _ e_0; dsimp only at hsE
    go_wp2_with fail
    obtain ⟨w9, hw9, g_0, g_1, k9, b9⟩ := set2_box (lo := w.heap.size) (.slice ya d.ins.length yc) (.slice yb d.pats.length yd) e_0 e_1 (by omega)
    rw [← hw9]
    refine bodyPost_ret (ret_code (a := 4) Tryz.results49 rfl g_0 g_1) rfl ?_
    exact CopyPost.stored O2.out nd1.out (fun b hb => by have := f1.out b hb; omega) k9 (hw.trans b9)

end Go.Proofs.YtfobkbjabenkkaaGreat
