/- Parts of the proof, merged: Thread4. -/
import Derived.Deep.RegionLaw
import Derived.Test.YtfobkbjabenkkaaGreatPe42
/- Thread: the reference's. -/
namespace Go.Proofs.YtfobkbjabenkkaaGreat
open Go.RowKit
set_option linter.unusedVariables false
set_option linter.unusedSimpArgs false
attribute [local go_sem] Ext.cell

set_option maxRecDepth 100000 in
set_option maxHeartbeats 16000000 in
theorem specThread_o (c : GCode) (hS : CodeCopy c) (r : List Value) (lo : Nat) (w : World) (hr : GCode.R lo w r c) :
    Calls Tryz.prog 17 #[.agg r.toArray] w (CopyPost (threadP c) w) := by
  have cK := fun W (hW : Below w.heap.size w W) => specCodeOk_c c hS.small r lo W (GCode.good.below hr hW)
  have cC := fun W (hW : Below w.heap.size w W) => l19Copy_o c hS r lo W (GCode.good.below hr hW)
  obtain ⟨u0, u1, rfl, _, h0, h1⟩ := hr
  obtain ⟨ia, ic, rfl, il, im, h0⟩ := h0
  obtain ⟨pa, pc, rfl⟩ := h1.form
  unfold threadP
  cases hq : codeOk c
  · rw [hq] at cK
    rw [if_neg (by decide)]
    clear hq cC h0 h1 il im hS
    replace cK := Lib.hid cK
    generalize c.ins.length = n at *
    generalize c.pats.length = m at *
    go_enter Tryz.func17, Tryz.ntmps17
    go_upto_region 1 with fail
    have C : RowAt (w.alloc (.cells #[.slice ia n ic, .slice pa m pc] 30)) (w.heap.size) 0 [.slice ia n ic, .slice pa m pc] := RowAt.box w #[.slice ia n ic, .slice pa m pc] 30
    have C := C.below (show Below (w.alloc (.cells #[.slice ia n ic, .slice pa m pc] 30)).heap.size (w.alloc (.cells #[.slice ia n ic, .slice pa m pc] 30)) ((w.alloc (.cells #[.slice ia n ic, .slice pa m pc] 30)).alloc (.cells #[.slice none 0 0, .slice none 0 0] 30)) by go_grown)
    have E : RowAt ((w.alloc (.cells #[.slice ia n ic, .slice pa m pc] 30)).alloc (.cells #[.slice none 0 0, .slice none 0 0] 30)) (w.heap.size + 1) 0 [.slice none 0 0, .slice none 0 0] := by have h := RowAt.box (w.alloc (.cells #[.slice ia n ic, .slice pa m pc] 30)) #[.slice none 0 0, .slice none 0 0] 30; simp only [World.size_alloc] at h; exact h
    have EW : Wr ((w.alloc (.cells #[.slice ia n ic, .slice pa m pc] 30)).alloc (.cells #[.slice none 0 0, .slice none 0 0] 30)) (w.heap.size + 1) 0 2 := by have h := Wr.box (w.alloc (.cells #[.slice ia n ic, .slice pa m pc] 30)) #[.slice none 0 0, .slice none 0 0] 30; simp only [World.size_alloc] at h; exact h
    have hw : Below w.heap.size w ((w.alloc (.cells #[.slice ia n ic, .slice pa m pc] 30)).alloc (.cells #[.slice none 0 0, .slice none 0 0] 30)) := by go_grown
    generalize ((w.alloc (.cells #[.slice ia n ic, .slice pa m pc] 30)).alloc (.cells #[.slice none 0 0, .slice none 0 0] 30)) = w0 at *
    obtain ⟨c_0, c_1⟩ := C.box2; have hsC := World.block_lt_of_cell? _ _ c_0; dsimp only at hsC; have ef_0 := EW.frz 0 (by omega); have ef_1 := EW.frz 1 (by omega); obtain ⟨e_0, e_1⟩ := E.box2; have hsE := World.block_lt_of_cell? _ _ e_0; dsimp only at hsE
    go_wp2_with (go_at_call 13; ((with_reducible refine (cK.out _ hw).mono ?_); rintro e w1 ⟨rfl, hb⟩; have hw := hw.trans (hb.mono hw.size); have C := C.below hb; obtain ⟨c_0, c_1⟩ := C.box2; have hsC := World.block_lt_of_cell? _ _ c_0; dsimp only at hsC; have EW := EW.below hb; have ef_0 := EW.frz 0 (by omega); have ef_1 := EW.frz 1 (by omega); have E := E.below hb; obtain ⟨e_0, e_1⟩ := E.box2; have hsE := World.block_lt_of_cell? _ _ e_0; dsimp only at hsE; clear hb))
    obtain ⟨w9, hw9, g_0, g_1, k9, b9⟩ := set2_box (lo := w.heap.size) (.slice none 0 0) (.slice none 0 0) e_0 e_1 (by omega)
    rw [← hw9]
    refine bodyPost_ret (v := .agg #[.slice none 0 0, .slice none 0 0]) (by simp [results, Tryz.results17, go_sem, g_0, g_1]) rfl ?_
    exact CopyPost.zero (hw.trans b9)
  · rw [hq] at cK
    rw [if_pos rfl]
    have hL := codeOk_leads hq
    have hA := codeOk_arms hq
    obtain ⟨n1, n2, _, _⟩ := codeOk_all hq
    have cT := fun (fr : Nat) (hf : fr < c.ins.length) W (hW : Below w.heap.size w W) => l19End_c c.ins hL ia pa c.ins.length c.pats.length ic pc lo rfl hS.1 W (h0.below GIns.good hW) fr hf
    obtain ⟨n, hn⟩ : ∃ n, n = c.ins.length := ⟨_, rfl⟩
    obtain ⟨m, hm⟩ : ∃ m, m = c.pats.length := ⟨_, rfl⟩
    obtain ⟨is, qs⟩ := c
    dsimp only at *
    rw [← hn] at il n1 n2 cT
    rw [← hm] at cT
    rw [← hn, ← hm] at cK cC ⊢
    clear h1 hS
    replace hn := Lib.hid hn; replace hm := Lib.hid hm; replace h0 := Lib.hid h0; replace cK := Lib.hid cK; replace cC := Lib.hid cC; replace cT := Lib.hid cT; replace hL := Lib.hid hL; replace hA := Lib.hid hA; replace hq := Lib.hid hq
    go_enter Tryz.func17, Tryz.ntmps17
    go_upto_region 1 with fail
    have C : RowAt (w.alloc (.cells #[.slice ia n ic, .slice pa m pc] 30)) (w.heap.size) 0 [.slice ia n ic, .slice pa m pc] := RowAt.box w #[.slice ia n ic, .slice pa m pc] 30
    have C := C.below (show Below (w.alloc (.cells #[.slice ia n ic, .slice pa m pc] 30)).heap.size (w.alloc (.cells #[.slice ia n ic, .slice pa m pc] 30)) ((w.alloc (.cells #[.slice ia n ic, .slice pa m pc] 30)).alloc (.cells #[.slice none 0 0, .slice none 0 0] 30)) by go_grown)
    have E : RowAt ((w.alloc (.cells #[.slice ia n ic, .slice pa m pc] 30)).alloc (.cells #[.slice none 0 0, .slice none 0 0] 30)) (w.heap.size + 1) 0 [.slice none 0 0, .slice none 0 0] := by have h := RowAt.box (w.alloc (.cells #[.slice ia n ic, .slice pa m pc] 30)) #[.slice none 0 0, .slice none 0 0] 30; simp only [World.size_alloc] at h; exact h
    have EW : Wr ((w.alloc (.cells #[.slice ia n ic, .slice pa m pc] 30)).alloc (.cells #[.slice none 0 0, .slice none 0 0] 30)) (w.heap.size + 1) 0 2 := by have h := Wr.box (w.alloc (.cells #[.slice ia n ic, .slice pa m pc] 30)) #[.slice none 0 0, .slice none 0 0] 30; simp only [World.size_alloc] at h; exact h
    have hw : Below w.heap.size w ((w.alloc (.cells #[.slice ia n ic, .slice pa m pc] 30)).alloc (.cells #[.slice none 0 0, .slice none 0 0] 30)) := by go_grown
    generalize ((w.alloc (.cells #[.slice ia n ic, .slice pa m pc] 30)).alloc (.cells #[.slice none 0 0, .slice none 0 0] 30)) = w0 at *
    obtain ⟨c_0, c_1⟩ := C.box2; have hsC := World.block_lt_of_cell? _ _ c_0; dsimp only at hsC; have ef_0 := EW.frz 0 (by omega); have ef_1 := EW.frz 1 (by omega); obtain ⟨e_0, e_1⟩ := E.box2; have hsE := World.block_lt_of_cell? _ _ e_0; dsimp only at hsE
    have hsE0 := hsE
    go_upto_region 3 with (go_at_call 13; ((with_reducible refine (cK.out _ hw).mono ?_); rintro e w1 ⟨rfl, hb⟩; have hw := hw.trans (hb.mono hw.size); have C := C.below hb; obtain ⟨c_0, c_1⟩ := C.box2; have hsC := World.block_lt_of_cell? _ _ c_0; dsimp only at hsC; have EW := EW.below hb; have ef_0 := EW.frz 0 (by omega); have ef_1 := EW.frz 1 (by omega); have E := E.below hb; obtain ⟨e_0, e_1⟩ := E.box2; have hsE := World.block_lt_of_cell? _ _ e_0; dsimp only at hsE; clear hb))
    go_upto_region 4 with (go_at_call 14; (with_reducible refine (cC.out _ hw).mono ?_); rintro e w2 ⟨r', bs, rfl, O2, hnd, hfr, hb⟩; obtain ⟨v0, p0, v1, p1, rfl, rfl, _, s0, s1⟩ := O2; obtain ⟨g, gc, hv0, rfl, OI⟩ := slO_own s0 (by rw [← hn.out]; exact n1); rw [← hn.out] at hv0; subst hv0; obtain ⟨pa2, pc2, hv1⟩ := s1.form; rw [← hm.out] at hv1; subst hv1; have hlt2 := s1.lt GPat.ok; have hg2 := (own_base OI.1 g rfl).2; have hz12 := hb.size; have hw := hw.trans (hb.mono hw.size); have C := C.below hb; obtain ⟨c_0, c_1⟩ := C.box2; have hsC := World.block_lt_of_cell? _ _ c_0; dsimp only at hsC; have EW := EW.below hb; have ef_0 := EW.frz 0 (by omega); have ef_1 := EW.frz 1 (by omega); have E := E.below hb; obtain ⟨e_0, e_1⟩ := E.box2; have hsE := World.block_lt_of_cell? _ _ e_0; dsimp only at hsE; clear hb)
    obtain ⟨w3, hW3⟩ : ∃ W, W = w2.alloc (.cells #[.slice (some ⟨g, 0, none⟩) n gc, .slice pa2 m pc2] 30) := ⟨_, rfl⟩
    rw [← hW3]
    have hb3 : Below w2.heap.size w2 w3 := by rw [hW3]; go_grown
    have D : RowAt w3 w2.heap.size 0 [.slice (some ⟨g, 0, none⟩) n gc, .slice pa2 m pc2] := by rw [hW3]; exact RowAt.box w2 #[_, _] _
    have hs3 : w2.heap.size < w3.heap.size := by rw [hW3]; simp
    have OI := OI.below hb3
    have s1 := s1.below GPat.ok hb3
    have C := C.below hb3
    have E := E.below hb3
    have EW := EW.below hb3
    have hw := hw.trans (hb3.mono hw.size)
    have hgw : w1.heap.size ≤ g := hfr g (by simp)
    have hpw : ∀ b ∈ p1, w1.heap.size ≤ b := fun b hb => hfr b (by simp [hb])
    have hgp : g ∉ p1 := by simp at hnd; exact hnd.1
    have hndp : p1.Nodup := by simp at hnd; exact hnd.2
    obtain ⟨dD, hdD⟩ : ∃ x, x = w2.heap.size := ⟨_, rfl⟩
    rw [← hdD] at D hs3 hlt2 hg2 ⊢
    have hgE : w.heap.size + 1 < g := by omega
    rw [← mapN_zero (thrI is) is] at OI
    clear hW3 hb3 s0 hnd hfr c_0 c_1 e_0 e_1 ef_0 ef_1 hsC hsE cK cC hsE0 hz12
    replace OI := Lib.hid OI; replace s1 := Lib.hid s1; replace hpw := Lib.hid hpw; replace hgp := Lib.hid hgp; replace hndp := Lib.hid hndp; replace hlt2 := Lib.hid hlt2; replace hdD := Lib.hid hdD
    obtain ⟨c_0, c_1⟩ := C.box2; have hsC := World.block_lt_of_cell? _ _ c_0; dsimp only at hsC
    go_wp2_with fail
    go_loopw [15] (fun i wr => ∃ k : Nat, k ≤ n ∧ i = .int .i64 k ∧ Below w.heap.size w wr ∧ w3.heap.size ≤ wr.heap.size ∧ RowAt wr w.heap.size 0 [.slice ia n ic, .slice pa m pc] ∧ RowAt wr (w.heap.size + 1) 0 [.slice none 0 0, .slice none 0 0] ∧ Wr wr (w.heap.size + 1) 0 2 ∧ RowAt wr dD 0 [.slice (some ⟨g, 0, none⟩) n gc, .slice pa2 m pc2] ∧ Hid (OwnF 57 4 insRow GIns.wf 0 wr (.slice (some ⟨g, 0, none⟩) n gc) (mapN (thrI is) is k)) ∧ Hid (SlO 55 1 GPat.O p1 wr (.slice pa2 m pc2) qs)) (fun i _ => n - (intOf i).toNat)
    case atStart => exact ⟨0, by omega, rfl, hw, Nat.le_refl _, C, E, EW, D, OI, s1⟩
    case round =>
      clear hw C c_0 c_1 hsC OI s1
      obtain ⟨k, hk, rfl, hw, hz, C2, E2, E2W, D2, hO, hP⟩ := hrel
      by_cases hlt : k < n
      · obtain ⟨b1, o1, x, s1', _, hab, P1, ⟨rfl, hwf⟩, r1⟩ := (h0.out.below GIns.good hw).get hn hlt
        have hxm := List.mem_of_getElem? P1.out
        have hget := mapN_get (f := thrI is) P1.out
        have hset := mapN_step (f := thrI is) P1.out
        have hsame := mapN_same (f := thrI is) P1.out
        have hlen := mapN_length (thrI is) is k
        have hl1 := hL.out x hxm
        have ha1 := hA.out x hxm
        have hthr := fun (j : Nat) (hj : j < is.length) => thr_in hL.out hj (is.length + 2) [] j hj
        have hnl : n = (mapN (thrI is) is k).length := by rw [hlen]; exact hn.out
        obtain ⟨op, a, b, s⟩ := x
        obtain ⟨r_0, r_1, r_2, r_3⟩ := r1.cells4
        dsimp only at *
        clear r1
        subst hab
        go_upto_region 7 with fail
        obtain ⟨w4, hW4⟩ : ∃ W, W = wr.alloc (.cells #[.int .i64 op, .int .i64 a, .int .i64 b, .string s] 57) := ⟨_, rfl⟩
        rw [← hW4]
        have hb4 : Below wr.heap.size wr w4 := by rw [hW4]; go_grown
        have Q : RowAt w4 wr.heap.size 0 [.int .i64 op, .int .i64 a, .int .i64 b, .string s] := by rw [hW4]; exact RowAt.box wr #[_, _, _, _] _
        have hs4 : wr.heap.size < w4.heap.size := by rw [hW4]; simp
        have C4 := C2.below hb4
        have E4 := E2.below hb4
        have E4W := E2W.below hb4
        have D4 := D2.below hb4
        have O4 := hO.out.below hb4
        have P4 := hP.out.below GPat.ok hb4
        have hw4 := hw.trans (hb4.mono hw.size)
        clear hW4 hb4 r_0 r_1 r_2 r_3 C2 E2 E2W D2 hO hP hw
        by_cases h1 : op = 12 ∨ op = 13
        · rcases h1 with rfl | rfl
          · obtain ⟨v', rfl, hvl⟩ := hl1 (by rfl)
            obtain ⟨t, ht, htl⟩ := hthr v' hvl
            have ht' : thr is (v' : Int) = (t : Int) := ht
            have hx : thrI is ⟨12, (v' : Int), b, s⟩ = ⟨12, (t : Int), b, s⟩ := by unfold thrI; rw [if_pos (by simp)]; show (⟨12, thr is (v' : Int), b, s⟩ : GIns) = _; rw [ht']
            rw [hx] at hset
            have cT' := fun W (hW : Below w.heap.size w W) => cT.out v' (by rw [hn.out]; exact hvl) W hW
            rw [ht'] at cT'
            have hcell := fun W (hW : Below w4.heap.size w4 W) => ins_cell (O4.below hW) hget (t := 1) (u := .int .i64 (v' : Int)) rfl (off := k * 4 + 1) rfl
            have htn : t ≤ 3000 := by rw [← hn.out] at htl; omega
            have ht64 : I64 (t : Int) := by constructor <;> omega
            have hwf' : (⟨12, (t : Int), b, s⟩ : GIns).wf := by
              obtain ⟨q0, q1, q2, q3⟩ := hwf
              exact ⟨q0, ht64, q2, q3⟩
            have hst := fun W (hW : Below w4.heap.size w4 W) => ins_store (O4.below hW) hnl hget (t := 1) (by decide) (off := k * 4 + 1) rfl (u := .int .i64 (t : Int)) (x' := ⟨12, (t : Int), b, s⟩) rfl hwf'
            rw [hset] at hst
            replace cT' := Lib.hid cT'; replace hcell := Lib.hid hcell; replace hst := Lib.hid hst; replace P4 := Lib.hid P4; replace O4 := Lib.hid O4; replace hnl := Lib.hid hnl
            clear hget hset hsame hlen hl1 ha1 hthr hx ht ht' htl hwf hwf'
            obtain ⟨q_0, q_1, q_2, q_3⟩ := Q.box4; have hsQ := World.block_lt_of_cell? _ _ q_0; dsimp only at hsQ; obtain ⟨c4_0, c4_1⟩ := C4.box2; have hsC4 := World.block_lt_of_cell? _ _ c4_0; dsimp only at hsC4; obtain ⟨d4_0, d4_1⟩ := D4.box2; have hsD4 := World.block_lt_of_cell? _ _ d4_0; dsimp only at hsD4
            have hzw := hw4.size
            go_upto_region 8 with fail
            go_region_law (go_simp; go_at_call 37; (with_reducible refine (cT'.out _ (hw4.trans (by go_grown))).mono ?_); rintro e w5 ⟨rfl, hb5⟩; have hb' : Below w4.heap.size w4 w5 := (show Below w4.heap.size w4 w4.drew by go_grown).trans (hb5.mono (by go_grown)); have D5 := D4.below hb'; have i_1 := (hcell.out _ hb').1; have if_1 := (hcell.out _ hb').2; obtain ⟨d5_0, d5_1⟩ := D5.box2; have hsD5 := World.block_lt_of_cell? _ _ d5_0; dsimp only at hsD5; clear hb5)
            all_goals
              obtain ⟨w6, hW6⟩ : ∃ W, W = w5.setCell ⟨g, k * 4 + 1, none⟩ (.int .i64 (t : Int)) := ⟨_, rfl⟩
              rw [← hW6]
              have k6 : Kept (· = g) w5 w6 := by rw [hW6]; exact Kept.set (S := (· = g)) (p := ⟨g, k * 4 + 1, none⟩) (Kept.refl _ _) rfl _
              have O6 := hst.out _ hb'
              rw [← hW6] at O6
              have P6 := (P4.out.below GPat.ok hb').kept GPat.ok k6 (fun b hb e => hgp.out (e ▸ hb))
              have C6 := (C4.below hb').kept k6 (by omega)
              have E6 := (E4.below hb').kept k6 (by omega)
              have E6W := (E4W.below hb').kept k6 (by omega)
              have D6 := D5.kept k6 (by omega)
              have Q6 := (Q.below hb').kept k6 (by omega)
              have hw6 : Below w.heap.size w w6 := by rw [hW6]; exact (hw4.trans (hb'.mono hw4.size)).setCell (p := ⟨g, k * 4 + 1, none⟩) (by show w.heap.size ≤ g; omega) _
              have hz6 : w3.heap.size ≤ w6.heap.size := by have h1 := hb'.size; have h2 : w6.heap.size = w5.heap.size := by rw [hW6]; simp [World.setCell]
                                                           omega
              replace O6 := Lib.hid O6; replace P6 := Lib.hid P6
              clear hW6 k6 i_1 if_1 D5 O4 P4 C4 E4 E4W D4 hb' hcell hst cT' q_0 q_1 q_2 q_3 c4_0 c4_1 d4_0 d4_1 hsQ hsC4 hsD4 d5_0 d5_1 hsD5
              obtain ⟨q6_0, q6_1, q6_2, q6_3⟩ := Q6.box4; have hsQ6 := World.block_lt_of_cell? _ _ q6_0; dsimp only at hsQ6
              go_wp2_with fail
              go_roundw
              case rel => exact ⟨k + 1, by omega, by go_num, hw6, hz6, C6, E6, E6W, D6, O6, P6⟩
              case measure => simp [intOf]; omega
          · obtain ⟨v', rfl, hvl⟩ := hl1 (by rfl)
            obtain ⟨t, ht, htl⟩ := hthr v' hvl
            have ht' : thr is (v' : Int) = (t : Int) := ht
            have hx : thrI is ⟨13, (v' : Int), b, s⟩ = ⟨13, (t : Int), b, s⟩ := by unfold thrI; rw [if_pos (by simp)]; show (⟨13, thr is (v' : Int), b, s⟩ : GIns) = _; rw [ht']
            rw [hx] at hset
            have cT' := fun W (hW : Below w.heap.size w W) => cT.out v' (by rw [hn.out]; exact hvl) W hW
            rw [ht'] at cT'
            have hcell := fun W (hW : Below w4.heap.size w4 W) => ins_cell (O4.below hW) hget (t := 1) (u := .int .i64 (v' : Int)) rfl (off := k * 4 + 1) rfl
            have htn : t ≤ 3000 := by rw [← hn.out] at htl; omega
            have ht64 : I64 (t : Int) := by constructor <;> omega
            have hwf' : (⟨13, (t : Int), b, s⟩ : GIns).wf := by
              obtain ⟨q0, q1, q2, q3⟩ := hwf
              exact ⟨q0, ht64, q2, q3⟩
            have hst := fun W (hW : Below w4.heap.size w4 W) => ins_store (O4.below hW) hnl hget (t := 1) (by decide) (off := k * 4 + 1) rfl (u := .int .i64 (t : Int)) (x' := ⟨13, (t : Int), b, s⟩) rfl hwf'
            rw [hset] at hst
            replace cT' := Lib.hid cT'; replace hcell := Lib.hid hcell; replace hst := Lib.hid hst; replace P4 := Lib.hid P4; replace O4 := Lib.hid O4; replace hnl := Lib.hid hnl
            clear hget hset hsame hlen hl1 ha1 hthr hx ht ht' htl hwf hwf'
            obtain ⟨q_0, q_1, q_2, q_3⟩ := Q.box4; have hsQ := World.block_lt_of_cell? _ _ q_0; dsimp only at hsQ; obtain ⟨c4_0, c4_1⟩ := C4.box2; have hsC4 := World.block_lt_of_cell? _ _ c4_0; dsimp only at hsC4; obtain ⟨d4_0, d4_1⟩ := D4.box2; have hsD4 := World.block_lt_of_cell? _ _ d4_0; dsimp only at hsD4
            have hzw := hw4.size
            go_upto_region 8 with fail
            go_region_law (go_simp; go_at_call 37; (with_reducible refine (cT'.out _ (hw4.trans (by go_grown))).mono ?_); rintro e w5 ⟨rfl, hb5⟩; have hb' : Below w4.heap.size w4 w5 := (show Below w4.heap.size w4 w4.drew by go_grown).trans (hb5.mono (by go_grown)); have D5 := D4.below hb'; have i_1 := (hcell.out _ hb').1; have if_1 := (hcell.out _ hb').2; obtain ⟨d5_0, d5_1⟩ := D5.box2; have hsD5 := World.block_lt_of_cell? _ _ d5_0; dsimp only at hsD5; clear hb5)
            all_goals
              obtain ⟨w6, hW6⟩ : ∃ W, W = w5.setCell ⟨g, k * 4 + 1, none⟩ (.int .i64 (t : Int)) := ⟨_, rfl⟩
              rw [← hW6]
              have k6 : Kept (· = g) w5 w6 := by rw [hW6]; exact Kept.set (S := (· = g)) (p := ⟨g, k * 4 + 1, none⟩) (Kept.refl _ _) rfl _
              have O6 := hst.out _ hb'
              rw [← hW6] at O6
              have P6 := (P4.out.below GPat.ok hb').kept GPat.ok k6 (fun b hb e => hgp.out (e ▸ hb))
              have C6 := (C4.below hb').kept k6 (by omega)
              have E6 := (E4.below hb').kept k6 (by omega)
              have E6W := (E4W.below hb').kept k6 (by omega)
              have D6 := D5.kept k6 (by omega)
              have Q6 := (Q.below hb').kept k6 (by omega)
              have hw6 : Below w.heap.size w w6 := by rw [hW6]; exact (hw4.trans (hb'.mono hw4.size)).setCell (p := ⟨g, k * 4 + 1, none⟩) (by show w.heap.size ≤ g; omega) _
              have hz6 : w3.heap.size ≤ w6.heap.size := by have h1 := hb'.size; have h2 : w6.heap.size = w5.heap.size := by rw [hW6]; simp [World.setCell]
                                                           omega
              replace O6 := Lib.hid O6; replace P6 := Lib.hid P6
              clear hW6 k6 i_1 if_1 D5 O4 P4 C4 E4 E4W D4 hb' hcell hst cT' q_0 q_1 q_2 q_3 c4_0 c4_1 d4_0 d4_1 hsQ hsC4 hsD4 d5_0 d5_1 hsD5
              obtain ⟨q6_0, q6_1, q6_2, q6_3⟩ := Q6.box4; have hsQ6 := World.block_lt_of_cell? _ _ q6_0; dsimp only at hsQ6
              go_wp2_with fail
              go_roundw
              case rel => exact ⟨k + 1, by omega, by go_num, hw6, hz6, C6, E6, E6W, D6, O6, P6⟩
              case measure => simp [intOf]; omega
        · by_cases h20 : op = 20
          · subst h20
            obtain ⟨v', rfl, hvl⟩ := ha1 rfl
            obtain ⟨t, ht, htl⟩ := hthr v' hvl
            have ht' : thr is (v' : Int) = (t : Int) := ht
            have hx : thrI is ⟨20, a, (v' : Int), s⟩ = ⟨20, a, (t : Int), s⟩ := by unfold thrI; rw [if_neg (by simp), if_pos rfl]; show (⟨20, a, thr is (v' : Int), s⟩ : GIns) = _; rw [ht']
            rw [hx] at hset
            have cT' := fun W (hW : Below w.heap.size w W) => cT.out v' (by rw [hn.out]; exact hvl) W hW
            rw [ht'] at cT'
            have hcell := fun W (hW : Below w4.heap.size w4 W) => ins_cell (O4.below hW) hget (t := 2) (u := .int .i64 (v' : Int)) rfl (off := k * 4 + 2) rfl
            have htn : t ≤ 3000 := by rw [← hn.out] at htl; omega
            have ht64 : I64 (t : Int) := by constructor <;> omega
            have hwf' : (⟨20, a, (t : Int), s⟩ : GIns).wf := by
              obtain ⟨q0, q1, q2, q3⟩ := hwf
              exact ⟨q0, q1, ht64, q3⟩
            have hst := fun W (hW : Below w4.heap.size w4 W) => ins_store (O4.below hW) hnl hget (t := 2) (by decide) (off := k * 4 + 2) rfl (u := .int .i64 (t : Int)) (x' := ⟨20, a, (t : Int), s⟩) rfl hwf'
            rw [hset] at hst
            replace cT' := Lib.hid cT'; replace hcell := Lib.hid hcell; replace hst := Lib.hid hst; replace P4 := Lib.hid P4; replace O4 := Lib.hid O4; replace hnl := Lib.hid hnl
            clear hget hset hsame hlen hl1 ha1 hthr hx ht ht' htl hwf hwf'
            obtain ⟨q_0, q_1, q_2, q_3⟩ := Q.box4; have hsQ := World.block_lt_of_cell? _ _ q_0; dsimp only at hsQ; obtain ⟨c4_0, c4_1⟩ := C4.box2; have hsC4 := World.block_lt_of_cell? _ _ c4_0; dsimp only at hsC4; obtain ⟨d4_0, d4_1⟩ := D4.box2; have hsD4 := World.block_lt_of_cell? _ _ d4_0; dsimp only at hsD4
            have hzw := hw4.size
            go_upto_region 10 with fail
            go_region_law (go_simp; go_at_call 37; (with_reducible refine (cT'.out _ (hw4.trans (by go_grown))).mono ?_); rintro e w5 ⟨rfl, hb5⟩; have hb' : Below w4.heap.size w4 w5 := (show Below w4.heap.size w4 w4.drew by go_grown).trans (hb5.mono (by go_grown)); have D5 := D4.below hb'; have i_1 := (hcell.out _ hb').1; have if_1 := (hcell.out _ hb').2; obtain ⟨d5_0, d5_1⟩ := D5.box2; have hsD5 := World.block_lt_of_cell? _ _ d5_0; dsimp only at hsD5; clear hb5)
            all_goals
              obtain ⟨w6, hW6⟩ : ∃ W, W = w5.setCell ⟨g, k * 4 + 2, none⟩ (.int .i64 (t : Int)) := ⟨_, rfl⟩
              rw [← hW6]
              have k6 : Kept (· = g) w5 w6 := by rw [hW6]; exact Kept.set (S := (· = g)) (p := ⟨g, k * 4 + 2, none⟩) (Kept.refl _ _) rfl _
              have O6 := hst.out _ hb'
              rw [← hW6] at O6
              have P6 := (P4.out.below GPat.ok hb').kept GPat.ok k6 (fun b hb e => hgp.out (e ▸ hb))
              have C6 := (C4.below hb').kept k6 (by omega)
              have E6 := (E4.below hb').kept k6 (by omega)
              have E6W := (E4W.below hb').kept k6 (by omega)
              have D6 := D5.kept k6 (by omega)
              have Q6 := (Q.below hb').kept k6 (by omega)
              have hw6 : Below w.heap.size w w6 := by rw [hW6]; exact (hw4.trans (hb'.mono hw4.size)).setCell (p := ⟨g, k * 4 + 2, none⟩) (by show w.heap.size ≤ g; omega) _
              have hz6 : w3.heap.size ≤ w6.heap.size := by have h1 := hb'.size; have h2 : w6.heap.size = w5.heap.size := by rw [hW6]; simp [World.setCell]
                                                           omega
              replace O6 := Lib.hid O6; replace P6 := Lib.hid P6
              clear hW6 k6 i_1 if_1 D5 O4 P4 C4 E4 E4W D4 hb' hcell hst cT' q_0 q_1 q_2 q_3 c4_0 c4_1 d4_0 d4_1 hsQ hsC4 hsD4 d5_0 d5_1 hsD5
              obtain ⟨q6_0, q6_1, q6_2, q6_3⟩ := Q6.box4; have hsQ6 := World.block_lt_of_cell? _ _ q6_0; dsimp only at hsQ6
              go_wp2_with fail
              go_roundw
              case rel => exact ⟨k + 1, by omega, by go_num, hw6, hz6, C6, E6, E6W, D6, O6, P6⟩
              case measure => simp [intOf]; omega
          · have hx : thrI is ⟨op, a, b, s⟩ = ⟨op, a, b, s⟩ := by unfold thrI; rw [if_neg h1, if_neg h20]
            have hs := hsame hx
            rw [← hs] at O4
            have d12 : (op == 12) = false := by simp; omega
            have d13 : (op == 13) = false := by simp; omega
            have d20 : (op == 20) = false := by simp; omega
            replace O4 := Lib.hid O4; replace P4 := Lib.hid P4
            clear hget hset hsame hlen hl1 ha1 hthr hx hs h1 h20
            obtain ⟨q_0, q_1, q_2, q_3⟩ := Q.box4; have hsQ := World.block_lt_of_cell? _ _ q_0; dsimp only at hsQ
            go_wp2_with fail
            go_roundw
            case rel => exact ⟨k + 1, by omega, by go_num, hw4, by omega, C4, E4, E4W, D4, O4, P4⟩
            case measure => simp [intOf]; omega
      · obtain rfl : k = n := by omega
        have hO' := hO.out
        rw [mapN_all _ _ hn.out] at hO'
        have SI := own_slO hO'
        obtain ⟨e2_0, e2_1⟩ := E2.box2; have hsE2 := World.block_lt_of_cell? _ _ e2_0; dsimp only at hsE2; obtain ⟨d2_0, d2_1⟩ := D2.box2; have hsD2 := World.block_lt_of_cell? _ _ d2_0; dsimp only at hsD2
        have e2f_0 := E2W.frz 0 (by omega)
        have e2f_1 := E2W.frz 1 (by omega)
        obtain ⟨w9, hw9, g_0, g_1, k9, b9⟩ := set2_box (lo := w.heap.size) (.slice (some ⟨g, 0, none⟩) k gc) (.slice pa2 m pc2) e2_0 e2_1 (by omega)
        have SI9 := SI.kept GIns.ok k9 (fun b hb e => by simp at hb; omega)
        have SP9 := hP.out.kept GPat.ok k9 (fun b hb e => by have := hpw.out b hb; omega)
        have hB9 := hw.trans b9
        replace SI9 := Lib.hid SI9; replace SP9 := Lib.hid SP9
        clear hO hO' SI hP k9 b9
        go_wp2_with fail
        rw [← hw9]
        refine bodyPost_ret (v := .agg #[.slice (some ⟨g, 0, none⟩) k gc, .slice pa2 m pc2]) (by simp [results, Tryz.results17, go_sem, g_0, g_1]) rfl ?_
        exact code_joined (lo := w1.heap.size) (by omega) SI9.out SP9.out (by simp) hndp.out (fun b hb => by simp at hb; omega) hpw.out (fun b hb hb2 => by simp at hb; exact hgp.out (hb ▸ hb2)) hB9

end Go.Proofs.YtfobkbjabenkkaaGreat
