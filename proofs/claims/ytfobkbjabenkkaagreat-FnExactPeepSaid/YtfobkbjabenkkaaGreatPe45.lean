/- Parts of the proof, merged: Peep2. -/
import Derived.Test.YtfobkbjabenkkaaGreatPe44
/- Peep: the reference's. -/
namespace Go.Proofs.YtfobkbjabenkkaaGreat
open Go.RowKit
set_option linter.unusedVariables false
set_option linter.unusedSimpArgs false
attribute [local go_sem] Ext.cell

set_option maxRecDepth 100000 in
set_option maxHeartbeats 16000000 in
theorem specPeep_o (c : GCode) (hS : CodeCopy c) (r : List Value) (lo : Nat) (w : World) (hr : GCode.R lo w r c) :
    Calls Tryz.prog 5 #[.agg r.toArray] w (CopyPost (peepP c) w) := by
  have cK := fun W (hW : Below w.heap.size w W) => specCodeOk_c c hS.small r lo W (GCode.good.below hr hW)
  have cC := fun W (hW : Below w.heap.size w W) => l19Copy_o c hS r lo W (GCode.good.below hr hW)
  obtain ⟨ia, ic, pa, pc, rfl⟩ := hr.form
  clear hr
  unfold peepP
  cases hq : codeOk c
  · rw [hq] at cK
    rw [if_neg (by decide)]
    clear hq hS cC
    replace cK := Lib.hid cK
    generalize c.ins.length = n at *
    generalize c.pats.length = m at *
    go_enter Tryz.func5, Tryz.ntmps5
    go_upto_region 1 with fail
    have C : RowAt (w.alloc (.cells #[.slice ia n ic, .slice pa m pc] 30)) (w.heap.size) 0 [.slice ia n ic, .slice pa m pc] := RowAt.box w #[.slice ia n ic, .slice pa m pc] 30
    have C := C.below (show Below (w.alloc (.cells #[.slice ia n ic, .slice pa m pc] 30)).heap.size (w.alloc (.cells #[.slice ia n ic, .slice pa m pc] 30)) ((w.alloc (.cells #[.slice ia n ic, .slice pa m pc] 30)).alloc (.cells #[.slice none 0 0, .slice none 0 0] 30)) by go_grown)
    have E : RowAt ((w.alloc (.cells #[.slice ia n ic, .slice pa m pc] 30)).alloc (.cells #[.slice none 0 0, .slice none 0 0] 30)) (w.heap.size + 1) 0 [.slice none 0 0, .slice none 0 0] := by have h := RowAt.box (w.alloc (.cells #[.slice ia n ic, .slice pa m pc] 30)) #[.slice none 0 0, .slice none 0 0] 30; simp only [World.size_alloc] at h; exact h
    have EW : Wr ((w.alloc (.cells #[.slice ia n ic, .slice pa m pc] 30)).alloc (.cells #[.slice none 0 0, .slice none 0 0] 30)) (w.heap.size + 1) 0 2 := by have h := Wr.box (w.alloc (.cells #[.slice ia n ic, .slice pa m pc] 30)) #[.slice none 0 0, .slice none 0 0] 30; simp only [World.size_alloc] at h; exact h
    have hw : Below w.heap.size w ((w.alloc (.cells #[.slice ia n ic, .slice pa m pc] 30)).alloc (.cells #[.slice none 0 0, .slice none 0 0] 30)) := by go_grown
    generalize ((w.alloc (.cells #[.slice ia n ic, .slice pa m pc] 30)).alloc (.cells #[.slice none 0 0, .slice none 0 0] 30)) = w0 at *
    obtain ⟨c_0, c_1⟩ := C.box2; have hsC := World.block_lt_of_cell? _ _ c_0; dsimp only at hsC; have ef_0 := EW.frz 0 (by omega); have ef_1 := EW.frz 1 (by omega); obtain ⟨e_0, e_1⟩ := E.box2; have hsE := World.block_lt_of_cell? _ _ e_0; dsimp only at hsE
    go_wp2_with (go_at_call 13; ((with_reducible refine (cK.out _ hw).mono ?_); rintro e w1 ⟨rfl, hb⟩; have hw := hw.trans (hb.mono hw.size); have C := C.below hb; obtain ⟨c_0, c_1⟩ := C.box2; have hsC := World.block_lt_of_cell? _ _ c_0; dsimp only at hsC; have EW := EW.below hb; have ef_0 := EW.frz 0 (by omega); have ef_1 := EW.frz 1 (by omega); have E := E.below hb; obtain ⟨e_0, e_1⟩ := E.box2; have hsE := World.block_lt_of_cell? _ _ e_0; dsimp only at hsE; clear hb))
    obtain ⟨w9, hw9, g_0, g_1, k9, b9⟩ := set2_box (lo := w.heap.size) (.slice none 0 0) (.slice none 0 0) e_0 e_1 (by omega)
    rw [← hw9]
    refine bodyPost_ret (ret_code (a := 2) Tryz.results5 rfl g_0 g_1) rfl ?_
    exact CopyPost.zero (hw.trans b9)
  · rw [hq] at cK
    rw [if_pos rfl]
    clear hq
    obtain ⟨n, hn⟩ : ∃ n, n = c.ins.length := ⟨_, rfl⟩
    obtain ⟨m, hm⟩ : ∃ m, m = c.pats.length := ⟨_, rfl⟩
    obtain ⟨R, hR⟩ : ∃ R, peepF (c.ins.length + 1) c = R := ⟨_, rfl⟩
    rw [hR]
    rw [← hn, ← hm] at cK cC ⊢
    replace cK := Lib.hid cK; replace cC := Lib.hid cC; replace hS := Lib.hid hS; replace hn := Lib.hid hn; replace hm := Lib.hid hm; replace hR := Lib.hid hR
    go_enter Tryz.func5, Tryz.ntmps5
    go_upto_region 1 with fail
    have C : RowAt (w.alloc (.cells #[.slice ia n ic, .slice pa m pc] 30)) (w.heap.size) 0 [.slice ia n ic, .slice pa m pc] := RowAt.box w #[.slice ia n ic, .slice pa m pc] 30
    have C := C.below (show Below (w.alloc (.cells #[.slice ia n ic, .slice pa m pc] 30)).heap.size (w.alloc (.cells #[.slice ia n ic, .slice pa m pc] 30)) ((w.alloc (.cells #[.slice ia n ic, .slice pa m pc] 30)).alloc (.cells #[.slice none 0 0, .slice none 0 0] 30)) by go_grown)
    have E : RowAt ((w.alloc (.cells #[.slice ia n ic, .slice pa m pc] 30)).alloc (.cells #[.slice none 0 0, .slice none 0 0] 30)) (w.heap.size + 1) 0 [.slice none 0 0, .slice none 0 0] := by have h := RowAt.box (w.alloc (.cells #[.slice ia n ic, .slice pa m pc] 30)) #[.slice none 0 0, .slice none 0 0] 30; simp only [World.size_alloc] at h; exact h
    have EW : Wr ((w.alloc (.cells #[.slice ia n ic, .slice pa m pc] 30)).alloc (.cells #[.slice none 0 0, .slice none 0 0] 30)) (w.heap.size + 1) 0 2 := by have h := Wr.box (w.alloc (.cells #[.slice ia n ic, .slice pa m pc] 30)) #[.slice none 0 0, .slice none 0 0] 30; simp only [World.size_alloc] at h; exact h
    have hw : Below w.heap.size w ((w.alloc (.cells #[.slice ia n ic, .slice pa m pc] 30)).alloc (.cells #[.slice none 0 0, .slice none 0 0] 30)) := by go_grown
    generalize ((w.alloc (.cells #[.slice ia n ic, .slice pa m pc] 30)).alloc (.cells #[.slice none 0 0, .slice none 0 0] 30)) = w0 at *
    obtain ⟨c_0, c_1⟩ := C.box2; have hsC := World.block_lt_of_cell? _ _ c_0; dsimp only at hsC; have ef_0 := EW.frz 0 (by omega); have ef_1 := EW.frz 1 (by omega); obtain ⟨e_0, e_1⟩ := E.box2; have hsE := World.block_lt_of_cell? _ _ e_0; dsimp only at hsE
    go_upto_region 3 with (go_at_call 13; ((with_reducible refine (cK.out _ hw).mono ?_); rintro e w1 ⟨rfl, hb⟩; have hw := hw.trans (hb.mono hw.size); have C := C.below hb; obtain ⟨c_0, c_1⟩ := C.box2; have hsC := World.block_lt_of_cell? _ _ c_0; dsimp only at hsC; have EW := EW.below hb; have ef_0 := EW.frz 0 (by omega); have ef_1 := EW.frz 1 (by omega); have E := E.below hb; obtain ⟨e_0, e_1⟩ := E.box2; have hsE := World.block_lt_of_cell? _ _ e_0; dsimp only at hsE; clear hb))
    have hsE0 := hsE
    go_upto_region 4 with (go_at_call 14; (with_reducible refine (cC.out _ hw).mono ?_); rintro e w2 ⟨r', bs, rfl, O2, -, -, hb⟩; have R2 := GCode.ok.read (lo := 0) O2 (fun b _ => Nat.zero_le b); obtain ⟨xa, xc, xb, xd, rfl⟩ := R2.form; clear O2; have hw := hw.trans (hb.mono hw.size); have C := C.below hb; obtain ⟨c_0, c_1⟩ := C.box2; have hsC := World.block_lt_of_cell? _ _ c_0; dsimp only at hsC; have EW := EW.below hb; have ef_0 := EW.frz 0 (by omega); have ef_1 := EW.frz 1 (by omega); have E := E.below hb; obtain ⟨e_0, e_1⟩ := E.box2; have hsE := World.block_lt_of_cell? _ _ e_0; dsimp only at hsE; clear hb)
    obtain ⟨w3, hW3⟩ : ∃ W, W = w2.alloc (.cells #[.slice xa c.ins.length xc, .slice xb c.pats.length xd] 30) := ⟨_, rfl⟩
    rw [← hW3]
    have hb3 : Below w2.heap.size w2 w3 := by rw [hW3]; go_grown
    have I : RowAt w3 w2.heap.size 0 [.slice xa c.ins.length xc, .slice xb c.pats.length xd] := by rw [hW3]; exact RowAt.box w2 #[_, _] _
    have IW : Wr w3 w2.heap.size 0 2 := by rw [hW3]; exact Wr.box w2 #[_, _] _
    have hbI : w2.heap.size < w3.heap.size := by rw [hW3]; simp
    have C := C.below hb3
    have E := E.below hb3
    have EW := EW.below hb3
    have hw := hw.trans (hb3.mono hw.size)
    have R3 := GCode.good.below R2 hb3
    obtain ⟨bI, hbIe⟩ : ∃ x, x = w2.heap.size := ⟨_, rfl⟩
    rw [← hbIe] at I IW hbI hsE ⊢
    clear hW3 hb3 c_0 c_1 e_0 e_1 ef_0 ef_1 hsC cK cC R2
    replace R3 := Lib.hid R3; replace hbIe := Lib.hid hbIe
    go_loopw [4] (fun v wr => ∃ (k : Nat) (cur : GCode) (ua : Option Addr) (uc : Nat) (ub : Option Addr) (ud : Nat), cur.ins.length < k ∧ Below w.heap.size w wr ∧ bI < wr.heap.size ∧ RowAt wr w.heap.size 0 [.slice ia n ic, .slice pa m pc] ∧ RowAt wr (w.heap.size + 1) 0 [.slice none 0 0, .slice none 0 0] ∧ Wr wr (w.heap.size + 1) 0 2 ∧ RowAt wr bI 0 [.slice ua cur.ins.length uc, .slice ub cur.pats.length ud] ∧ Wr wr bI 0 2 ∧ Hid (GCode.R 0 wr [.slice ua cur.ins.length uc, .slice ub cur.pats.length ud] cur) ∧ Hid (CodeCopy cur) ∧ Hid (peepF k cur = R)) (fun v wr => insLen wr bI)
    case atStart => exact ⟨n + 1, c, xa, xc, xb, xd, by rw [hn.out]; omega, hw, hbI, C, E, EW, I, IW, R3, hS, by rw [hn.out]; exact hR⟩
    case round =>
      clear hw hbI C E EW I IW R3
      obtain ⟨k, cur, ua, uc, ub, ud, hk, hw, hbI, C, E, EW, I, IW, hRc, hSc, hF⟩ := hrel
      have cT := specThread_o cur hSc.out _ 0 wr hRc.out
      have cP := fun r W h => specStrip_o (threadP cur) ((stageP_sub cur 1).copy hSc.out) r 0 W h
      have cI := fun r W h => specIdle_o (stripP (threadP cur)) ((stageP_sub cur 2).copy hSc.out) r 0 W h
      have hSd := (passP_sub cur).copy hSc.out
      have hFs := hF.out
      obtain ⟨k, rfl⟩ : ∃ k', k = k' + 1 := ⟨k - 1, by omega⟩
      unfold peepF at hFs
      have hl1 : cur.ins.length ≤ 1048576 := hSc.out.1
      have hl2 := hSd.1
      have e1 : idleP (stripP (threadP cur)) = passP cur := rfl
      rw [e1] at cI
      generalize passP cur = D at *
      generalize stripP (threadP cur) = D2 at *
      generalize threadP cur = D1 at *
      obtain ⟨l, hl⟩ : ∃ x, x = cur.ins.length := ⟨_, rfl⟩
      obtain ⟨q, hqe⟩ : ∃ x, x = cur.pats.length := ⟨_, rfl⟩
      rw [← hl, ← hqe] at I cT
      rw [← hl] at hk hl1 hFs
      replace hl := Lib.hid hl; replace hqe := Lib.hid hqe; replace cT := Lib.hid cT; replace cP := Lib.hid cP; replace cI := Lib.hid cI; replace hSd := Lib.hid hSd; replace hFs := Lib.hid hFs; replace e1 := Lib.hid e1
      have if_0 := IW.frz 0 (by omega); have if_1 := IW.frz 1 (by omega); obtain ⟨i_0, i_1⟩ := I.box2; have hsI := World.block_lt_of_cell? _ _ i_0; dsimp only at hsI
      have i_0' := i_0
      replace i_0' := Lib.hid i_0'
      go_upto_region 5 with (first
        | (go_at_call 17; (with_reducible refine (cT.out).mono ?_); rintro e w3 ⟨r3, bs3, rfl, O3, -, -, hb⟩; have R3 := GCode.ok.read (lo := 0) O3 (fun b _ => Nat.zero_le b); obtain ⟨xa, xc, xb, xd, rfl⟩ := R3.form; clear O3; have C3 := C.below hb; have E3 := E.below hb; have E3W := EW.below hb; have I3 := I.below hb; have I3W := IW.below hb; have hw3 := hw.trans (hb.mono hw.size); have hz3 := hb.size; clear hb)
        | (go_at_call 16; (with_reducible refine (cP.out _ _ R3).mono ?_); rintro e w4 ⟨r4, bs4, rfl, O4, -, -, hb⟩; have R4 := GCode.ok.read (lo := 0) O4 (fun b _ => Nat.zero_le b); obtain ⟨ya, yc, yb, yd, rfl⟩ := R4.form; clear O4; have C4 := C3.below hb; have E4 := E3.below hb; have E4W := E3W.below hb; have I4 := I3.below hb; have I4W := I3W.below hb; have hw4 := hw3.trans (hb.mono hw3.size); have hz4 := hb.size; clear hb)
        | (go_at_call 15; (with_reducible refine (cI.out _ _ R4).mono ?_); rintro e w5 ⟨r5, bs5, rfl, O5, nd5, f5, hb⟩; have R5 := GCode.ok.read (lo := 0) O5 (fun b _ => Nat.zero_le b); obtain ⟨za, zc, zb, zd, rfl⟩ := R5.form; have C5 := C4.below hb; have E5 := E4.below hb; have E5W := E4W.below hb; have I5 := I4.below hb; have I5W := I4W.below hb; have hw5 := hw4.trans (hb.mono hw4.size); have hz5 := hb.size; clear hb))
      obtain ⟨w6, hW6⟩ : ∃ W, W = w5.alloc (.cells #[.slice za D.ins.length zc, .slice zb D.pats.length zd] 30) := ⟨_, rfl⟩
      rw [← hW6]
      have hb6 : Below w5.heap.size w5 w6 := by rw [hW6]; go_grown
      have N6 : RowAt w6 w5.heap.size 0 [.slice za D.ins.length zc, .slice zb D.pats.length zd] := by rw [hW6]; exact RowAt.box w5 #[_, _] _
      have hs6 : w5.heap.size < w6.heap.size := by rw [hW6]; simp
      have C6 := C5.below hb6
      have E6 := E5.below hb6
      have E6W := E5W.below hb6
      have I6 := I5.below hb6
      have I6W := I5W.below hb6
      have hw6 := hw5.trans (hb6.mono hw5.size)
      have O6 := GCode.ok.below O5 hb6
      have hz0 := hw.size
      obtain ⟨bN, hbN⟩ : ∃ x, x = w5.heap.size := ⟨_, rfl⟩
      rw [← hbN] at N6 hs6 hz5 ⊢
      obtain ⟨l', hl'⟩ : ∃ x, x = D.ins.length := ⟨_, rfl⟩
      obtain ⟨q', hq'⟩ : ∃ x, x = D.pats.length := ⟨_, rfl⟩
      rw [← hl', ← hq'] at N6 O6 ⊢
      rw [← hl'] at hl2 hFs
      clear hW6 hb6 C5 E5 E5W I5 I5W O5 hw5 C4 E4 E4W I4 I4W R4 hw4 C3 E3 E3W I3 I3W R3 hw3 C E EW I IW hw i_0 i_1 if_0 if_1 hsI R5
      replace hbN := Lib.hid hbN; replace O6 := Lib.hid O6; replace nd5 := Lib.hid nd5; replace f5 := Lib.hid f5; replace hl' := Lib.hid hl'; replace hq' := Lib.hid hq'
      have hsE9 : w.heap.size + 1 < w6.heap.size := World.block_lt_of_cell? _ _ E6.cells2.1
      obtain ⟨n6_0, n6_1⟩ := N6.box2; have hsN6 := World.block_lt_of_cell? _ _ n6_0; dsimp only at hsN6; have i6f_0 := I6W.frz 0 (by omega); have i6f_1 := I6W.frz 1 (by omega); obtain ⟨i6_0, i6_1⟩ := I6.box2; have hsI6 := World.block_lt_of_cell? _ _ i6_0; dsimp only at hsI6; have e6f_0 := E6W.frz 0 (by omega); have e6f_1 := E6W.frz 1 (by omega); obtain ⟨e6_0, e6_1⟩ := E6.box2; have hsE6 := World.block_lt_of_cell? _ _ e6_0; dsimp only at hsE6
      by_cases hless : l' < l
      · have d1 : decide ((l : Int) ≤ (l' : Int)) = false := decide_eq_false (by omega)
        have d2 : decide (l ≤ l') = false := decide_eq_false (by omega)
        have hR7 := hFs.out
        rw [if_pos hless] at hR7
        have hM := insLen_eq i_0'.out
        replace hR7 := Lib.hid hR7; replace hM := Lib.hid hM
        go_wp2_with fail
        obtain ⟨w7, hW7, g_0, g_1, K7, b7⟩ := set2_box (lo := w.heap.size) (.slice za l' zc) (.slice zb q' zd) i6_0 i6_1 (by omega)
        rw [← hW7]
        have W7 : Wr w7 bI 0 2 := by rw [hW7]; exact (I6W.set 0 _).set 1 _
        have O7 := GCode.ok.kept O6.out K7 (fun b hb e => by have := f5.out b hb; omega)
        clear hW7
        go_roundw
        case rel => exact ⟨k, D, za, zc, zb, zd, by rw [← hl'.out]; omega, hw6.trans b7, Nat.lt_of_lt_of_le hsI6 b7.size, C6.kept K7 (by omega), E6.kept K7 (by omega), E6W.kept K7 (by omega), by rw [← hl'.out, ← hq'.out]; exact RowAt.two g_0 g_1, W7, by rw [← hl'.out, ← hq'.out]; exact GCode.ok.read O7 (fun b _ => Nat.zero_le b), hSd, hR7⟩
        case measure => rw [hM.out, insLen_eq g_0]; exact hless
      · have d1 : decide ((l : Int) ≤ (l' : Int)) = true := decide_eq_true (by omega)
        have d2 : decide (l ≤ l') = true := decide_eq_true (by omega)
        have hR7 := hFs.out
        rw [if_neg hless] at hR7
        replace hR7 := Lib.hid hR7
        go_wp2_with fail
        obtain ⟨w9, hw9, j_0, j_1, k9, b9⟩ := set2_box (lo := w.heap.size) (.slice za l' zc) (.slice zb q' zd) e6_0 e6_1 (by omega)
        rw [← hw9]
        refine bodyPost_ret (ret_code (a := 2) Tryz.results5 rfl j_0 j_1) rfl ?_
        rw [← hR7.out]
        exact CopyPost.stored O6.out nd5.out (fun b hb => by have := f5.out b hb; omega) k9 (hw6.trans b9)

end Go.Proofs.YtfobkbjabenkkaaGreat
