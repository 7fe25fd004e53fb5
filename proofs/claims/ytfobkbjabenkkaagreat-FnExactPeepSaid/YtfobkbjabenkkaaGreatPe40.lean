/- Parts of the proof, merged: Keep4. -/
import Derived.Test.YtfobkbjabenkkaaGreatPe39
/- Keep: the reference's. -/
namespace Go.Proofs.YtfobkbjabenkkaaGreat
open Go.RowKit
set_option linter.unusedVariables false
set_option linter.unusedSimpArgs false
attribute [local go_sem] Ext.cell

theorem sl_head {lo : Nat} {w : World} {v : Value} {t : Int} (h : Sl IntR 1 lo w v [t]) : ∃ b4 o4 c4, v = .slice (some ⟨b4, o4, none⟩) 1 c4 ∧ w.cell? ⟨b4, o4, none⟩ = some (.int .i64 t) := by
  obtain ⟨a, c, rfl, _, _, h3⟩ := h
  obtain ⟨b4, o4, t1, s4, _, rfl, P4, ⟨rfl, _⟩, r4⟩ := h3.get (n := 1) (k := 0) (Lib.hid rfl) (by decide)
  have e : t = t1 := by have := P4.out; simpa using this
  subst e
  exact ⟨b4, o4, c, rfl, by simpa using r4 0 _ rfl⟩
theorem specTargets_one {y : GIns} {r : List Value} {lo : Nat} {t : Int} (ht : tgtP y = [t]) (W : World) (hr : GIns.R lo W r y) :
    Calls Tryz.prog 64 #[.agg r.toArray] W fun e W' => ∃ b4 o4 c4, e = .returned (.slice (some ⟨b4, o4, none⟩) 1 c4) ∧ W'.cell? ⟨b4, o4, none⟩ = some (.int .i64 t) ∧ Below W.heap.size W W' :=
  (specTargets_c y r lo W hr).mono fun e W' ⟨v, he, hs, hb⟩ => by
    rw [ht] at hs
    obtain ⟨b4, o4, c4, rfl, hc⟩ := sl_head hs
    exact ⟨b4, o4, c4, he, hc, hb⟩
theorem specTargets_none {y : GIns} {r : List Value} {lo : Nat} (ht : tgtP y = []) (W : World) (hr : GIns.R lo W r y) :
    Calls Tryz.prog 64 #[.agg r.toArray] W fun e W' => ∃ a4 c4, e = .returned (.slice a4 0 c4) ∧ Below W.heap.size W W' :=
  (specTargets_c y r lo W hr).mono fun e W' ⟨v, he, hs, hb⟩ => by
    rw [ht] at hs
    obtain ⟨a4, c4, rfl⟩ := hs.form
    exact ⟨a4, c4, he, hb⟩

set_option maxRecDepth 100000 in
set_option maxHeartbeats 16000000 in
theorem specKeep_o (c : GCode) (hS : CodeCopy c) (ps : List Int) (hPS : ps.length ≤ 1048576) (r : List Value) (u : Value) (lo : Nat) (w : World) (hr : GCode.R lo w r c) (hu : Sl IntR 1 lo w u ps) :
    Calls Tryz.prog 35 #[.agg r.toArray, u] w (KeepPost (keepP c ps) w) := by
  have cP := fun W (hW : Below w.heap.size w W) => l19Copy_o c hS r lo W (GCode.good.below hr hW)
  have cK := fun W (hW : Below w.heap.size w W) => specCodeOk_c c hS.small r lo W (GCode.good.below hr hW)
  obtain ⟨u0, u1, rfl, _, h0, h1⟩ := hr
  obtain ⟨ia, ic, rfl, il, im, h0⟩ := h0
  obtain ⟨pa, pc, rfl⟩ := h1.form
  have Hu := hu
  obtain ⟨va, vc, rfl, vl, vm, h2⟩ := hu
  cases hq : codeOk c
  · rw [hq] at cK
    rw [keep_notok hq]
    clear hq cP h0 h1 h2 il im hS Hu
    replace cK := Lib.hid cK
    generalize c.ins.length = n at *
    generalize c.pats.length = m at *
    generalize ps.length = np at *
    go_enter Tryz.func35, Tryz.ntmps35
    go_upto_region 1 with fail
    have C : RowAt (w.alloc (.cells #[.slice ia n ic, .slice pa m pc] 30)) (w.heap.size) 0 [.slice ia n ic, .slice pa m pc] := RowAt.box w #[.slice ia n ic, .slice pa m pc] 30
    have C := C.below (show Below (w.alloc (.cells #[.slice ia n ic, .slice pa m pc] 30)).heap.size (w.alloc (.cells #[.slice ia n ic, .slice pa m pc] 30)) ((w.alloc (.cells #[.slice ia n ic, .slice pa m pc] 30)).alloc (.cells #[.slice none 0 0, .slice none 0 0] 30)) by go_grown)
    have E : RowAt ((w.alloc (.cells #[.slice ia n ic, .slice pa m pc] 30)).alloc (.cells #[.slice none 0 0, .slice none 0 0] 30)) (w.heap.size + 1) 0 [.slice none 0 0, .slice none 0 0] := by have h := RowAt.box (w.alloc (.cells #[.slice ia n ic, .slice pa m pc] 30)) #[.slice none 0 0, .slice none 0 0] 30; simp only [World.size_alloc] at h; exact h
    have EW : Wr ((w.alloc (.cells #[.slice ia n ic, .slice pa m pc] 30)).alloc (.cells #[.slice none 0 0, .slice none 0 0] 30)) (w.heap.size + 1) 0 2 := by have h := Wr.box (w.alloc (.cells #[.slice ia n ic, .slice pa m pc] 30)) #[.slice none 0 0, .slice none 0 0] 30; simp only [World.size_alloc] at h; exact h
    have hw : Below w.heap.size w ((w.alloc (.cells #[.slice ia n ic, .slice pa m pc] 30)).alloc (.cells #[.slice none 0 0, .slice none 0 0] 30)) := by go_grown
    generalize ((w.alloc (.cells #[.slice ia n ic, .slice pa m pc] 30)).alloc (.cells #[.slice none 0 0, .slice none 0 0] 30)) = w0 at *
    obtain ⟨c_0, c_1⟩ := C.box2; have hsC := World.block_lt_of_cell? _ _ c_0; dsimp only at hsC; have ef_0 := EW.frz 0 (by omega); have ef_1 := EW.frz 1 (by omega); obtain ⟨e_0, e_1⟩ := E.box2; have hsE := World.block_lt_of_cell? _ _ e_0; dsimp only at hsE
    go_wp2_with (go_at_call 13; ((with_reducible refine (cK.out _ hw).mono ?_); rintro e w1 ⟨rfl, hb⟩; have hw := hw.trans (hb.mono hw.size); have C := C.below hb; obtain ⟨c_0, c_1⟩ := C.box2; have hsC := World.block_lt_of_cell? _ _ c_0; dsimp only at hsC; have EW := EW.below hb; have ef_0 := EW.frz 0 (by omega); have ef_1 := EW.frz 1 (by omega); have E := E.below hb; obtain ⟨e_0, e_1⟩ := E.box2; have hsE := World.block_lt_of_cell? _ _ e_0; dsimp only at hsE; clear hb))
    obtain ⟨w9, hw9, g_0, g_1, k9, b9⟩ := set2_box (lo := w.heap.size) (.slice none 0 0) (.slice none 0 0) e_0 e_1 (by omega)
    rw [← hw9]
    refine bodyPost_ret (ret_code_tmp (a := 4) (b := 5) Tryz.results35 rfl rfl g_0 g_1) rfl ?_
    exact KeepPost.zero (hw.trans b9)
  rw [hq] at cK
  by_cases hn0 : ps.length = 0
  · rw [keep_empty hn0]
    obtain rfl : ps = [] := List.length_eq_zero_iff.1 hn0
    clear hq cP h0 h1 h2 il im hS Hu hn0 vl
    simp only [List.length_nil] at *
    replace cK := Lib.hid cK
    generalize c.ins.length = n at *
    generalize c.pats.length = m at *
    go_enter Tryz.func35, Tryz.ntmps35
    go_upto_region 1 with fail
    have C : RowAt (w.alloc (.cells #[.slice ia n ic, .slice pa m pc] 30)) (w.heap.size) 0 [.slice ia n ic, .slice pa m pc] := RowAt.box w #[.slice ia n ic, .slice pa m pc] 30
    have C := C.below (show Below (w.alloc (.cells #[.slice ia n ic, .slice pa m pc] 30)).heap.size (w.alloc (.cells #[.slice ia n ic, .slice pa m pc] 30)) ((w.alloc (.cells #[.slice ia n ic, .slice pa m pc] 30)).alloc (.cells #[.slice none 0 0, .slice none 0 0] 30)) by go_grown)
    have E : RowAt ((w.alloc (.cells #[.slice ia n ic, .slice pa m pc] 30)).alloc (.cells #[.slice none 0 0, .slice none 0 0] 30)) (w.heap.size + 1) 0 [.slice none 0 0, .slice none 0 0] := by have h := RowAt.box (w.alloc (.cells #[.slice ia n ic, .slice pa m pc] 30)) #[.slice none 0 0, .slice none 0 0] 30; simp only [World.size_alloc] at h; exact h
    have EW : Wr ((w.alloc (.cells #[.slice ia n ic, .slice pa m pc] 30)).alloc (.cells #[.slice none 0 0, .slice none 0 0] 30)) (w.heap.size + 1) 0 2 := by have h := Wr.box (w.alloc (.cells #[.slice ia n ic, .slice pa m pc] 30)) #[.slice none 0 0, .slice none 0 0] 30; simp only [World.size_alloc] at h; exact h
    have hw : Below w.heap.size w ((w.alloc (.cells #[.slice ia n ic, .slice pa m pc] 30)).alloc (.cells #[.slice none 0 0, .slice none 0 0] 30)) := by go_grown
    generalize ((w.alloc (.cells #[.slice ia n ic, .slice pa m pc] 30)).alloc (.cells #[.slice none 0 0, .slice none 0 0] 30)) = w0 at *
    obtain ⟨c_0, c_1⟩ := C.box2; have hsC := World.block_lt_of_cell? _ _ c_0; dsimp only at hsC; have ef_0 := EW.frz 0 (by omega); have ef_1 := EW.frz 1 (by omega); obtain ⟨e_0, e_1⟩ := E.box2; have hsE := World.block_lt_of_cell? _ _ e_0; dsimp only at hsE
    go_wp2_with (go_at_call 13; ((with_reducible refine (cK.out _ hw).mono ?_); rintro e w1 ⟨rfl, hb⟩; have hw := hw.trans (hb.mono hw.size); have C := C.below hb; obtain ⟨c_0, c_1⟩ := C.box2; have hsC := World.block_lt_of_cell? _ _ c_0; dsimp only at hsC; have EW := EW.below hb; have ef_0 := EW.frz 0 (by omega); have ef_1 := EW.frz 1 (by omega); have E := E.below hb; obtain ⟨e_0, e_1⟩ := E.box2; have hsE := World.block_lt_of_cell? _ _ e_0; dsimp only at hsE; clear hb))
    obtain ⟨w9, hw9, g_0, g_1, k9, b9⟩ := set2_box (lo := w.heap.size) (.slice none 0 0) (.slice none 0 0) e_0 e_1 (by omega)
    rw [← hw9]
    refine bodyPost_ret (ret_code_tmp (a := 4) (b := 5) Tryz.results35 rfl rfl g_0 g_1) rfl ?_
    exact KeepPost.zero (hw.trans b9)
  obtain ⟨n1, n2, _, _⟩ := codeOk_all hq
  have hL := codeOk_leads hq
  have hA := codeOk_arms hq
  have hB0 := codeOk_b0 hq
  have hplace := fun k => keep_place (c := c) (ps := ps) (k := k)
  have hbad := fun k p => keep_bad (c := c) (ps := ps) (k := k) (p := p)
  have hgood := keep_good (c := c) (ps := ps) hq
  have hwi := fun p W => l10Place_c ia pa c.ins.length c.pats.length ic pc (Nat.le_trans hS.1 (by decide)) p W
  obtain ⟨n, hn⟩ : ∃ n, n = c.ins.length := ⟨_, rfl⟩
  obtain ⟨m, hm⟩ : ∃ m, m = c.pats.length := ⟨_, rfl⟩
  obtain ⟨np, hnp⟩ : ∃ np, np = ps.length := ⟨_, rfl⟩
  obtain ⟨is, qs⟩ := c
  dsimp only at *
  generalize hK : keepP ⟨is, qs⟩ ps = K at *
  rw [← hn] at il n1 n2 hplace hgood
  rw [← hn, ← hm] at cK cP hwi ⊢
  rw [← hnp] at vl hn0 hplace hgood hPS ⊢
  clear hq h1 hS hK
  replace hn := Lib.hid hn; replace hm := Lib.hid hm; replace hnp := Lib.hid hnp; replace h0 := Lib.hid h0; replace h2 := Lib.hid h2; replace cK := Lib.hid cK; replace cP := Lib.hid cP; replace hL := Lib.hid hL; replace hA := Lib.hid hA; replace hB0 := Lib.hid hB0; replace Hu := Lib.hid Hu; replace hplace := Lib.hid hplace; replace hbad := Lib.hid hbad; replace hgood := Lib.hid hgood
  go_enter Tryz.func35, Tryz.ntmps35
  go_upto_region 1 with fail
  have C : RowAt (w.alloc (.cells #[.slice ia n ic, .slice pa m pc] 30)) (w.heap.size) 0 [.slice ia n ic, .slice pa m pc] := RowAt.box w #[.slice ia n ic, .slice pa m pc] 30
  have C := C.below (show Below (w.alloc (.cells #[.slice ia n ic, .slice pa m pc] 30)).heap.size (w.alloc (.cells #[.slice ia n ic, .slice pa m pc] 30)) ((w.alloc (.cells #[.slice ia n ic, .slice pa m pc] 30)).alloc (.cells #[.slice none 0 0, .slice none 0 0] 30)) by go_grown)
  have E : RowAt ((w.alloc (.cells #[.slice ia n ic, .slice pa m pc] 30)).alloc (.cells #[.slice none 0 0, .slice none 0 0] 30)) (w.heap.size + 1) 0 [.slice none 0 0, .slice none 0 0] := by have h := RowAt.box (w.alloc (.cells #[.slice ia n ic, .slice pa m pc] 30)) #[.slice none 0 0, .slice none 0 0] 30; simp only [World.size_alloc] at h; exact h
  have EW : Wr ((w.alloc (.cells #[.slice ia n ic, .slice pa m pc] 30)).alloc (.cells #[.slice none 0 0, .slice none 0 0] 30)) (w.heap.size + 1) 0 2 := by have h := Wr.box (w.alloc (.cells #[.slice ia n ic, .slice pa m pc] 30)) #[.slice none 0 0, .slice none 0 0] 30; simp only [World.size_alloc] at h; exact h
  have hw : Below w.heap.size w ((w.alloc (.cells #[.slice ia n ic, .slice pa m pc] 30)).alloc (.cells #[.slice none 0 0, .slice none 0 0] 30)) := by go_grown
  generalize ((w.alloc (.cells #[.slice ia n ic, .slice pa m pc] 30)).alloc (.cells #[.slice none 0 0, .slice none 0 0] 30)) = w0 at *
  obtain ⟨c_0, c_1⟩ := C.box2; have hsC := World.block_lt_of_cell? _ _ c_0; dsimp only at hsC; have ef_0 := EW.frz 0 (by omega); have ef_1 := EW.frz 1 (by omega); obtain ⟨e_0, e_1⟩ := E.box2; have hsE := World.block_lt_of_cell? _ _ e_0; dsimp only at hsE
  have hsE0 := hsE
  have dnp : ((np : Int) == 0) = false := by simp; omega
  have hn1 : 0 < np := by omega
  clear hn0
  go_upto_region 3 with (go_at_call 13; ((with_reducible refine (cK.out _ hw).mono ?_); rintro e w1 ⟨rfl, hb⟩; have hw := hw.trans (hb.mono hw.size); have C := C.below hb; obtain ⟨c_0, c_1⟩ := C.box2; have hsC := World.block_lt_of_cell? _ _ c_0; dsimp only at hsC; have EW := EW.below hb; have ef_0 := EW.frz 0 (by omega); have ef_1 := EW.frz 1 (by omega); have E := E.below hb; obtain ⟨e_0, e_1⟩ := E.box2; have hsE := World.block_lt_of_cell? _ _ e_0; dsimp only at hsE; clear hb))
  go_wp2_with fail
  go_loopw [23] (fun i wr => ∃ k : Nat, k ≤ np ∧ i = .int .i64 k ∧ Below w.heap.size w wr ∧ RowAt wr w.heap.size 0 [.slice ia n ic, .slice pa m pc] ∧ RowAt wr (w.heap.size + 1) 0 [.slice none 0 0, .slice none 0 0] ∧ Wr wr (w.heap.size + 1) 0 2 ∧ Hid (∀ j, j < k → plAt n ps j = true)) (fun i _ => np - (intOf i).toNat)
  case atStart => exact ⟨0, by omega, rfl, hw, C, E, EW, fun j hj => by omega⟩
  case round =>
    clear hw C E EW c_0 c_1 e_0 e_1 ef_0 ef_1 hsC hsE
    obtain ⟨k, hk, rfl, hw, C2, E2, E2W, hP⟩ := hrel
    by_cases hlt : k < np
    · obtain ⟨b1, o1, p, s1', _, hab, P1, ⟨rfl, hp64⟩, r1⟩ := (h2.out.below IntR.good hw).get hnp hlt
      have r_0 : wr.cell? ⟨b1, o1 + k, none⟩ = some (.int .i64 p) := by simpa using r1 0 _ rfl
      clear r1
      have hpl : plAt n ps k = (decide (0 ≤ p ∧ p ≤ (n : Int) - 1) && (k == 0 || decide (ps[k - 1]?.getD 0 < p))) := by unfold plAt; rw [P1.out]; rfl
      have hwp := fun W => hwi p W
      subst hab
      obtain ⟨c2_0, c2_1⟩ := C2.box2; have hsC2 := World.block_lt_of_cell? _ _ c2_0; dsimp only at hsC2; have e2f_0 := E2W.frz 0 (by omega); have e2f_1 := E2W.frz 1 (by omega); obtain ⟨e2_0, e2_1⟩ := E2.box2; have hsE2 := World.block_lt_of_cell? _ _ e2_0; dsimp only at hsE2
      cases hin : decide (0 ≤ p ∧ p ≤ (n : Int) - 1)
      · rw [hin] at hpl hwp
        have hres := hplace.out k hlt (by rw [hpl]; rfl)
        replace hres := Lib.hid hres
        clear hin hpl hwi hp64
        go_wp2_with (go_at_call 61; ((with_reducible refine (hwp _).mono ?_); rintro e w1 ⟨rfl, hb⟩; have hw := hw.trans (hb.mono hw.size); have C2 := C2.below hb; obtain ⟨c2_0, c2_1⟩ := C2.box2; have hsC2 := World.block_lt_of_cell? _ _ c2_0; dsimp only at hsC2; have E2W := E2W.below hb; have e2f_0 := E2W.frz 0 (by omega); have e2f_1 := E2W.frz 1 (by omega); have E2 := E2.below hb; obtain ⟨e2_0, e2_1⟩ := E2.box2; have hsE2 := World.block_lt_of_cell? _ _ e2_0; dsimp only at hsE2; clear hb))
        obtain ⟨w9, hw9, g_0, g_1, k9, b9⟩ := set2_box (lo := w.heap.size) (.slice none 0 0) (.slice none 0 0) e2_0 e2_1 (by omega)
        rw [← hw9]
        refine bodyPost_ret (ret_code_tmp (a := 4) (b := 5) Tryz.results35 rfl rfl g_0 g_1) rfl ?_
        rw [hres.out]
        exact KeepPost.zero (hw.trans b9)
      · rw [hin, Bool.true_and] at hpl
        rw [hin] at hwp
        clear hin
        by_cases hk0 : k = 0
        · have hP2 : Hid (∀ j, j < k + 1 → plAt n ps j = true) := fun j hj => by
            obtain rfl : j = k := by omega
            rw [hpl, hk0]; rfl
          have hk4 : decide (0 < (k : Int)) = false := decide_eq_false (by omega)
          have hk4' : decide (0 < k) = false := decide_eq_false (by omega)
          clear hpl hwi hk0
          go_wp2_with (go_at_call 61; ((with_reducible refine (hwp _).mono ?_); rintro e w1 ⟨rfl, hb⟩; have hw := hw.trans (hb.mono hw.size); have C2 := C2.below hb; obtain ⟨c2_0, c2_1⟩ := C2.box2; have hsC2 := World.block_lt_of_cell? _ _ c2_0; dsimp only at hsC2; have E2W := E2W.below hb; have e2f_0 := E2W.frz 0 (by omega); have e2f_1 := E2W.frz 1 (by omega); have E2 := E2.below hb; obtain ⟨e2_0, e2_1⟩ := E2.box2; have hsE2 := World.block_lt_of_cell? _ _ e2_0; dsimp only at hsE2; clear hb))
          go_roundw
          case rel => exact ⟨k + 1, by omega, by go_num, hw, C2, E2, E2W, hP2⟩
          case measure => simp [intOf]; omega
        · obtain ⟨b3, o3, q, s3', _, hab, P3, ⟨rfl, hq64⟩, r3⟩ := (h2.out.below IntR.good hw).get (k := k - 1) hnp (by omega)
          obtain ⟨rfl, rfl⟩ : b1 = b3 ∧ o1 = o3 := by injection hab with h; injection h with h1 h2; exact ⟨h1, h2⟩
          have q_0 : wr.cell? ⟨b1, o1 + (k - 1), none⟩ = some (.int .i64 q) := by simpa using r3 0 _ rfl
          rw [P3.out] at hpl
          simp only [Option.getD_some] at hpl
          rw [show (k == 0) = false by simpa using hk0, Bool.false_or] at hpl
          have hk1 : 0 ≤ (k : Int) - 1 := by omega
          have hk2 : (k : Int) - 1 < (np : Int) := by omega
          have hk3 : ((k : Int) - 1).toNat = k - 1 := by omega
          have hk4 : decide (0 < (k : Int)) = true := decide_eq_true (by omega)
          have hk4' : decide (0 < k) = true := decide_eq_true (by omega)
          have hk5 : k - 1 < np := by omega
          clear r3 hab
          by_cases hlq : q < p
          · rw [decide_eq_true hlq] at hpl
            have hP2 : Hid (∀ j, j < k + 1 → plAt n ps j = true) := fun j hj => by
              rcases Nat.lt_or_eq_of_le (Nat.le_of_lt_succ hj) with h | rfl
              · exact hP.out j h
              · exact hpl
            have d1 : decide (p ≤ q) = false := decide_eq_false (by omega)
            clear hpl hwi
            go_wp2_with (go_at_call 61; ((with_reducible refine (hwp _).mono ?_); rintro e w1 ⟨rfl, hb⟩; have q_1 := cell_below hb q_0; have hw := hw.trans (hb.mono hw.size); have C2 := C2.below hb; obtain ⟨c2_0, c2_1⟩ := C2.box2; have hsC2 := World.block_lt_of_cell? _ _ c2_0; dsimp only at hsC2; have E2W := E2W.below hb; have e2f_0 := E2W.frz 0 (by omega); have e2f_1 := E2W.frz 1 (by omega); have E2 := E2.below hb; obtain ⟨e2_0, e2_1⟩ := E2.box2; have hsE2 := World.block_lt_of_cell? _ _ e2_0; dsimp only at hsE2; clear hb))
            go_roundw
            case rel => exact ⟨k + 1, by omega, by go_num, hw, C2, E2, E2W, hP2⟩
            case measure => simp [intOf]; omega
          · rw [decide_eq_false hlq] at hpl
            have hres := hplace.out k hlt hpl
            replace hres := Lib.hid hres
            have d1 : decide (p ≤ q) = true := decide_eq_true (by omega)
            clear hpl hwi
            go_wp2_with (go_at_call 61; ((with_reducible refine (hwp _).mono ?_); rintro e w1 ⟨rfl, hb⟩; have q_1 := cell_below hb q_0; have hw := hw.trans (hb.mono hw.size); have C2 := C2.below hb; obtain ⟨c2_0, c2_1⟩ := C2.box2; have hsC2 := World.block_lt_of_cell? _ _ c2_0; dsimp only at hsC2; have E2W := E2W.below hb; have e2f_0 := E2W.frz 0 (by omega); have e2f_1 := E2W.frz 1 (by omega); have E2 := E2.below hb; obtain ⟨e2_0, e2_1⟩ := E2.box2; have hsE2 := World.block_lt_of_cell? _ _ e2_0; dsimp only at hsE2; clear hb))
            obtain ⟨w9, hw9, g_0, g_1, k9, b9⟩ := set2_box (lo := w.heap.size) (.slice none 0 0) (.slice none 0 0) e2_0 e2_1 (by omega)
            rw [← hw9]
            refine bodyPost_ret (ret_code_tmp (a := 4) (b := 5) Tryz.results35 rfl rfl g_0 g_1) rfl ?_
            rw [hres.out]
            exact KeepPost.zero (hw.trans b9)
    · obtain rfl : k = np := by omega
      obtain ⟨c2_0, c2_1⟩ := C2.box2; have hsC2 := World.block_lt_of_cell? _ _ c2_0; dsimp only at hsC2; have e2f_0 := E2W.frz 0 (by omega); have e2f_1 := E2W.frz 1 (by omega); obtain ⟨e2_0, e2_1⟩ := E2.box2; have hsE2 := World.block_lt_of_cell? _ _ e2_0; dsimp only at hsE2
      have hPl := fun j (h : j < ps.length) => hP.out j (by rw [hnp.out]; exact h)
      have hRi := plAt_rising hPl
      replace hPl := Lib.hid hPl; replace hRi := Lib.hid hRi
      clear hP hwi
      go_upto_region 10 with (go_at_call 14; (with_reducible refine (cP.out _ hw).mono ?_); rintro e w2 ⟨r', bs', rfl, O2, hnd, hfr, hb⟩; obtain ⟨v0, p0, v1, p1, rfl, rfl, _, s0, SP⟩ := O2; obtain ⟨za, zc, hv0⟩ := s0.form; rw [← hn.out] at hv0; subst hv0; obtain ⟨pa2, pc2, hv1⟩ := SP.form; rw [← hm.out] at hv1; subst hv1; have ltP := SP.lt GPat.ok; have hz12 := hb.size; have C3 := C2.below hb; have E3 := E2.below hb; have E3W := E2W.below hb; have hw2 := hw.trans (hb.mono hw.size))
      have fP : ∀ b ∈ p1, wr.heap.size ≤ b := fun b hb => hfr b (by simp [hb])
      have ndP : p1.Nodup := (List.nodup_append.1 hnd).2.1
      obtain ⟨w3, hW3⟩ : ∃ W, W = w2.alloc (.cells #[.slice za n zc, .slice pa2 m pc2] 30) := ⟨_, rfl⟩
      rw [← hW3]
      have hb3 : Below w2.heap.size w2 w3 := by rw [hW3]; go_grown
      have D : RowAt w3 w2.heap.size 0 [.slice za n zc, .slice pa2 m pc2] := by rw [hW3]; exact RowAt.box w2 #[_, _] _
      have DW : Wr w3 w2.heap.size 0 2 := by rw [hW3]; exact Wr.box w2 #[_, _] _
      have hs3 : w2.heap.size < w3.heap.size := by rw [hW3]; simp
      have SP := SP.below GPat.ok hb3
      have C3 := C3.below hb3
      have E3 := E3.below hb3
      have E3W := E3W.below hb3
      have hw3 := hw2.trans (hb3.mono hw2.size)
      obtain ⟨dD, hdD⟩ : ∃ x, x = w2.heap.size := ⟨_, rfl⟩
      have hzw := hw.size
      have hsE9 := hsE2
      rw [← hdD] at D DW hs3 ltP hz12 ⊢
      have hdE : w.heap.size + 1 < dD := by omega
      replace hdD := Lib.hid hdD
      clear hW3 hb3 hb c2_0 c2_1 e2_0 e2_1 e2f_0 e2f_1 hsC2 hsE2 C2 E2 E2W hw2 cK cP hw s0 hnd hfr
      have df_0 := DW.frz 0 (by omega); have df_1 := DW.frz 1 (by omega); obtain ⟨d_0, d_1⟩ := D.box2; have hsD := World.block_lt_of_cell? _ _ d_0; dsimp only at hsD
      go_upto_region 11 with fail
      obtain ⟨w3', hW3'⟩ : ∃ W, W = w3.setCell ⟨dD, 0, none⟩ (.slice none 0 0) := ⟨_, rfl⟩
      rw [← hW3']
      have k3 : Kept (· = dD) w3 w3' := by rw [hW3']; exact Kept.set (S := (· = dD)) (p := ⟨dD, 0, none⟩) (Kept.refl _ _) rfl _
      have D : RowAt w3' dD 0 [.slice none 0 0, .slice pa2 m pc2] := by rw [hW3']; exact RowAt.putC D (j := 0) (by simp) _
      have DW : Wr w3' dD 0 2 := by rw [hW3']; exact Wr.set DW 0 _
      have C3 := C3.kept k3 (by omega)
      have E3 := E3.kept k3 (by omega)
      have E3W := E3W.kept k3 (by omega)
      have SP := SP.kept GPat.ok k3 (fun b hb e => by have := ltP b hb; omega)
      have hw3 : Below w.heap.size w w3' := by rw [hW3']; exact hw3.setCell (p := ⟨dD, 0, none⟩) (by show w.heap.size ≤ dD; omega) _
      have hs3 : dD < w3'.heap.size := by rw [hW3']; simpa [World.setCell] using hs3
      clear hW3' k3 d_0 d_1 df_0 df_1 hsD
      replace SP := Lib.hid SP; replace ndP := Lib.hid ndP; replace fP := Lib.hid fP; replace ltP := Lib.hid ltP
      obtain ⟨iJ, hi0, hz0, hz1, hz2⟩ := info_parts info_InsS; have IJ := Lib.hid hi0; have IJ0 := Lib.hid hz0; have IJ1 := Lib.hid hz1; have IJ2 := Lib.hid hz2; clear hi0 hz0 hz1 hz2
      obtain ⟨c3_0, c3_1⟩ := C3.box2; have hsC3 := World.block_lt_of_cell? _ _ c3_0; dsimp only at hsC3; have df_0 := DW.frz 0 (by omega); have df_1 := DW.frz 1 (by omega); obtain ⟨d_0, d_1⟩ := D.box2; have hsD := World.block_lt_of_cell? _ _ d_0; dsimp only at hsD
      go_wp2_with fail
      go_loopw [52] (fun i W => ∃ (j : Nat) (v : Value), j ≤ k ∧ i = .int .i64 j ∧ Below w.heap.size w W ∧ w3'.heap.size ≤ W.heap.size ∧ RowAt W w.heap.size 0 [.slice ia n ic, .slice pa m pc] ∧ RowAt W (w.heap.size + 1) 0 [.slice none 0 0, .slice none 0 0] ∧ Wr W (w.heap.size + 1) 0 2 ∧ RowAt W dD 0 [v, .slice pa2 m pc2] ∧ Wr W dD 0 2 ∧ Hid (OwnF 57 4 insRow GIns.wf w3'.heap.size W v ((ps.take j).map fun p => newI ps (insAt is p))) ∧ Hid (SlO 55 1 GPat.O p1 W (.slice pa2 m pc2) qs) ∧ Hid (∀ p ∈ ps.take j, badI ps (insAt is p) = false)) (fun i _ => k - (intOf i).toNat)
      case atStart => exact ⟨0, .slice none 0 0, by omega, rfl, hw3, Nat.le_refl _, C3, E3, E3W, D, DW, OwnF.empty, SP, fun p hp => by simp at hp⟩
      case round =>
        clear c3_0 c3_1 d_0 d_1 df_0 df_1 hsC3 hsD hw3 SP C3 E3 E3W D DW
        obtain ⟨j, v, hj, rfl, hw, hz, C4, E4, E4W, D4, D4W, hO, hSP, hB⟩ := hrel
        obtain ⟨da, dc, rfl⟩ := hO.out.form
        rw [List.length_map, List.length_take] at hO D4
        by_cases hlt : j < k
        · rw [show min j ps.length = j by have := hnp.out; omega] at hO D4
          obtain ⟨b1, o1, p, s1', _, hab, P1, ⟨rfl, hp64⟩, r1⟩ := (h2.out.below IntR.good hw).get hnp hlt
          have r_0 : wr.cell? ⟨b1, o1 + j, none⟩ = some (.int .i64 p) := by simpa using r1 0 _ rfl
          clear r1
          subst hab
          obtain ⟨q, rfl, hqn⟩ := plAt_in (hPl.out j (List.getElem?_eq_some_iff.1 P1.out).1) P1.out
          obtain ⟨b3, o3, x, s3', _, hab, P3, ⟨rfl, hxw⟩, r3⟩ := (h0.out.below GIns.good hw).get hn hqn
          subst hab
          obtain ⟨e_0, e_1, e_2, e_3⟩ := r3.cells4
          have hx : insAt is (q : Int) = x := by unfold insAt; rw [Int.toNat_natCast, P3.out]; rfl
          have hst : ((ps.take (j + 1)).map fun p => newI ps (insAt is p)) = ((ps.take j).map fun p => newI ps (insAt is p)) ++ [newI ps x] := by rw [take_snoc' P1.out, List.map_append, List.map_singleton, hx]
          have hbd := hbad.out j _ P1.out
          rw [hx] at hbd
          have hB2 : badI ps x = false → ∀ p ∈ ps.take (j + 1), badI ps (insAt is p) = false := fun h p hp => by
            rw [take_snoc' P1.out] at hp
            rcases List.mem_append.1 hp with h1 | h1
            · exact hB.out p h1
            · simp at h1; subst h1; rw [hx]; exact h
          have hxm := List.mem_of_getElem? P3.out
          have hl1 := hL.out x hxm
          have ha1 := hA.out x hxm
          have hb1 := hB0.out x hxm
          clear r3 hx hxm hB
          have hbO := own_base hO.out.1
          obtain ⟨op, a, b, s⟩ := x
          dsimp only at *
          obtain ⟨c4_0, c4_1⟩ := C4.box2; have hsC4 := World.block_lt_of_cell? _ _ c4_0; dsimp only at hsC4
          go_upto_region 15 with fail
          obtain ⟨w4, hW4⟩ : ∃ W, W = wr.alloc (.cells #[.int .i64 op, .int .i64 a, .int .i64 b, .string s] 57) := ⟨_, rfl⟩
          rw [← hW4]
          have hb4 : Below wr.heap.size wr w4 := by rw [hW4]; go_grown
          have Q : RowAt w4 wr.heap.size 0 [.int .i64 op, .int .i64 a, .int .i64 b, .string s] := by rw [hW4]; exact RowAt.box wr #[_, _, _, _] _
          have QW : Wr w4 wr.heap.size 0 4 := by rw [hW4]; exact Wr.box wr #[_, _, _, _] _
          have hs4 : wr.heap.size < w4.heap.size := by rw [hW4]; simp
          skip
          have C5 := C4.below hb4
          have E5 := E4.below hb4
          have E5W := E4W.below hb4
          have D5 := D4.below hb4
          have D5W := D4W.below hb4
          have O5 := hO.out.below hb4
          have P5 := hSP.out.below GPat.ok hb4
          have hw4 := hw.trans (hb4.mono hw.size)
          have hzw4 := hw.size
          obtain ⟨bI, hbI⟩ : ∃ x, x = wr.heap.size := ⟨_, rfl⟩
          rw [← hbI] at Q QW hs4 hz hbO hzw4 ⊢
          clear hW4 hb4 e_0 e_1 e_2 e_3 r_0 c4_0 c4_1 hsC4 C4 E4 E4W D4 D4W hO hSP hw
          replace O5 := Lib.hid O5; replace P5 := Lib.hid P5; replace hbI := Lib.hid hbI; replace hst := Lib.hid hst; replace hB2 := Lib.hid hB2; replace hl1 := Lib.hid hl1; replace ha1 := Lib.hid ha1; replace hb1 := Lib.hid hb1; replace hbd := Lib.hid hbd; replace hbO := Lib.hid hbO
          have qf_0 := QW.frz 0 (by omega); have qf_1 := QW.frz 1 (by omega); have qf_2 := QW.frz 2 (by omega); have qf_3 := QW.frz 3 (by omega); obtain ⟨q_0, q_1, q_2, q_3⟩ := Q.box4; have hsQ := World.block_lt_of_cell? _ _ q_0; dsimp only at hsQ; have d5f_0 := D5W.frz 0 (by omega); have d5f_1 := D5W.frz 1 (by omega); obtain ⟨d5_0, d5_1⟩ := D5.box2; have hsD5 := World.block_lt_of_cell? _ _ d5_0; dsimp only at hsD5; have e5f_0 := E5W.frz 0 (by omega); have e5f_1 := E5W.frz 1 (by omega); obtain ⟨e5_0, e5_1⟩ := E5.box2; have hsE5 := World.block_lt_of_cell? _ _ e5_0; dsimp only at hsE5
          have hcl : ∀ y, cntLt ps y ≤ 1048576 := fun y => Nat.le_trans (cntLt_le ps y) (by rw [← hnp.out]; exact hPS)
          have cN := fun (y : Int) W (hW : Below w.heap.size w W) => l19New_c ps y (by rw [← hnp.out]; exact hPS) _ lo W (Hu.out.below IntR.good hW)
          rw [← hnp.out] at cN
          have dk0 : decide ((k : Int) ≤ 0) = false := decide_eq_false (by omega)
          have dk1 : decide (k ≤ 0) = false := decide_eq_false (by omega)
          have dk2 : decide (k = 0) = false := decide_eq_false (by omega)
          replace hcl := Lib.hid hcl; replace cN := Lib.hid cN
          cases hld : leadsP op
          · by_cases h20 : op = 20
            · subst h20
              have hnew := newI_arm (ps := ps) (x := ⟨20, a, b, s⟩) rfl
              dsimp only at hnew
              have hbd' : badI ps ⟨20, a, b, s⟩ = decide (k ≤ cntLt ps b) := by rw [hnp.out]; exact hnew.2.2
              have hny : newI ps ⟨20, a, b, s⟩ = ⟨20, a, (cntLt ps b : Nat), s⟩ := hnew.2.1
              have cq := cN.out b w4 hw4
              have hcl1 := hcl.out b
              clear hnew
              generalize cntLt ps b = cn at hbd' hny cq hcl1
              have hcn64 : I64 ((cn : Nat) : Int) := by constructor <;> omega
              have cT := fun W => specTargets_one (y := ⟨20, a, (cn : Int), s⟩) (lo := lo) (t := (cn : Int)) (newI_arm (ps := ps) (x := ⟨20, a, (cn : Int), s⟩) rfl).1 W ⟨rfl, by (obtain ⟨q0, q1, q2, q3⟩ := hxw; exact ⟨q0, q1, hcn64, q3⟩)⟩
              replace cq := Lib.hid cq; replace hny := Lib.hid hny; replace hbd' := Lib.hid hbd'; replace cT := Lib.hid cT
              go_upto_region 24 with (go_at_call 63; (with_reducible refine (cq.out).mono ?_); rintro e w6 ⟨rfl, rfl⟩)
              obtain ⟨w7, hW7⟩ : ∃ W, W = w4.setCell ⟨bI, 2, none⟩ (.int .i64 (cn : Int)) := ⟨_, rfl⟩
              rw [← hW7]
              have kk : Kept (· = bI) w4 w7 := by rw [hW7]; exact Kept.set (S := (· = bI)) (p := ⟨bI, 2, none⟩) (Kept.refl _ _) rfl _
              have Q7 : RowAt w7 bI 0 [.int .i64 20, .int .i64 a, .int .i64 (cn : Int), .string s] := by rw [hW7]; exact RowAt.putC Q (j := 2) (by simp) _
              have Q7W : Wr w7 bI 0 4 := by rw [hW7]; exact Wr.set QW 2 _
              have C7 := C5.kept kk (by omega)
              have E7 := E5.kept kk (by omega)
              have E7W := E5W.kept kk (by omega)
              have D7 := D5.kept kk (by omega)
              have D7W := D5W.kept kk (by omega)
              have hO7 := Lib.hid (O5.out.kept kk (fun x hx e => by have := (hbO.out x hx).2; omega))
              have hP7 := Lib.hid (P5.out.kept GPat.ok kk (fun b hb e => by have := ltP.out b hb; omega))
              have hw : Below w.heap.size w w7 := by rw [hW7]; exact hw4.setCell (p := ⟨bI, 2, none⟩) hzw4 _
              clear hW7 kk Q QW C5 E5 E5W D5 D5W O5 P5 q_0 q_1 q_2 q_3 hsQ qf_0 qf_1 qf_2 qf_3 e5_0 e5_1 e5f_0 e5f_1 hsE5 d5_0 d5_1 d5f_0 d5f_1 hsD5 cq hw4
              have q7f_0 := Q7W.frz 0 (by omega); have q7f_1 := Q7W.frz 1 (by omega); have q7f_2 := Q7W.frz 2 (by omega); have q7f_3 := Q7W.frz 3 (by omega); obtain ⟨q7_0, q7_1, q7_2, q7_3⟩ := Q7.box4; have hsQ7 := World.block_lt_of_cell? _ _ q7_0; dsimp only at hsQ7; have e7f_0 := E7W.frz 0 (by omega); have e7f_1 := E7W.frz 1 (by omega); obtain ⟨e7_0, e7_1⟩ := E7.box2; have hsE7 := World.block_lt_of_cell? _ _ e7_0; dsimp only at hsE7; have d7f_0 := D7W.frz 0 (by omega); have d7f_1 := D7W.frz 1 (by omega); obtain ⟨d7_0, d7_1⟩ := D7.box2; have hsD7 := World.block_lt_of_cell? _ _ d7_0; dsimp only at hsD7
              by_cases hbb : k ≤ cn
              · have hres := hbd.out (by rw [hbd'.out]; exact decide_eq_true hbb)
                have d1 : decide ((k : Int) ≤ (cn : Int)) = true := decide_eq_true (by omega)
                have d2 : decide (k ≤ cn) = true := decide_eq_true hbb
                replace hres := Lib.hid hres
                clear hbb hbd' hny
                go_upto_region 25 with (go_at_call 64; (with_reducible refine (cT.out _).mono ?_); rintro e w1 ⟨b4, o4, c4, rfl, v_0, hb⟩; have hO7 := Lib.hid (hO7.out.below hb); have hP7 := Lib.hid (hP7.out.below GPat.ok hb); have hw := hw.trans (hb.mono hw.size); have C7 := C7.below hb; obtain ⟨c7_0, c7_1⟩ := C7.box2; have hsC7 := World.block_lt_of_cell? _ _ c7_0; dsimp only at hsC7; have E7W := E7W.below hb; have e7f_0 := E7W.frz 0 (by omega); have e7f_1 := E7W.frz 1 (by omega); have E7 := E7.below hb; obtain ⟨e7_0, e7_1⟩ := E7.box2; have hsE7 := World.block_lt_of_cell? _ _ e7_0; dsimp only at hsE7; have D7W := D7W.below hb; have d7f_0 := D7W.frz 0 (by omega); have d7f_1 := D7W.frz 1 (by omega); have D7 := D7.below hb; obtain ⟨d7_0, d7_1⟩ := D7.box2; have hsD7 := World.block_lt_of_cell? _ _ d7_0; dsimp only at hsD7; have Q7W := Q7W.below hb; have q7f_0 := Q7W.frz 0 (by omega); have q7f_1 := Q7W.frz 1 (by omega); have q7f_2 := Q7W.frz 2 (by omega); have q7f_3 := Q7W.frz 3 (by omega); have Q7 := Q7.below hb; obtain ⟨q7_0, q7_1, q7_2, q7_3⟩ := Q7.box4; have hsQ7 := World.block_lt_of_cell? _ _ q7_0; dsimp only at hsQ7; clear hb)
                repeat (first | go_values | go_skip | go_guarded | go_step | go_upon)
                try simp only [Exit.inBlock, Exit.then]
                obtain ⟨w9, hw9, g_0, g_1, k9, b9⟩ := set2_box (lo := w.heap.size) (.slice none 0 0) (.slice none 0 0) e7_0 e7_1 (by omega)
                rw [← hw9]
                refine bodyPost_ret (ret_code_tmp (a := 4) (b := 5) Tryz.results35 rfl rfl g_0 g_1) rfl ?_
                rw [hres.out]
                exact KeepPost.zero (hw.trans b9)
              · have d1 : decide ((k : Int) ≤ (cn : Int)) = false := decide_eq_false (by omega)
                have d2 : decide (k ≤ cn) = false := decide_eq_false hbb
                have hres : Hid (badI ps ⟨20, a, b, s⟩ = false) := by show _ = _; rw [hbd'.out]; exact d2
                clear hbb hbd'
                go_upto_region 26 with (go_at_call 64; (with_reducible refine (cT.out _).mono ?_); rintro e w1 ⟨b4, o4, c4, rfl, v_0, hb⟩; have hO7 := Lib.hid (hO7.out.below hb); have hP7 := Lib.hid (hP7.out.below GPat.ok hb); have hw := hw.trans (hb.mono hw.size); have C7 := C7.below hb; obtain ⟨c7_0, c7_1⟩ := C7.box2; have hsC7 := World.block_lt_of_cell? _ _ c7_0; dsimp only at hsC7; have E7W := E7W.below hb; have e7f_0 := E7W.frz 0 (by omega); have e7f_1 := E7W.frz 1 (by omega); have E7 := E7.below hb; obtain ⟨e7_0, e7_1⟩ := E7.box2; have hsE7 := World.block_lt_of_cell? _ _ e7_0; dsimp only at hsE7; have D7W := D7W.below hb; have d7f_0 := D7W.frz 0 (by omega); have d7f_1 := D7W.frz 1 (by omega); have D7 := D7.below hb; obtain ⟨d7_0, d7_1⟩ := D7.box2; have hsD7 := World.block_lt_of_cell? _ _ d7_0; dsimp only at hsD7; have Q7W := Q7W.below hb; have q7f_0 := Q7W.frz 0 (by omega); have q7f_1 := Q7W.frz 1 (by omega); have q7f_2 := Q7W.frz 2 (by omega); have q7f_3 := Q7W.frz 3 (by omega); have Q7 := Q7.below hb; obtain ⟨q7_0, q7_1, q7_2, q7_3⟩ := Q7.box4; have hsQ7 := World.block_lt_of_cell? _ _ q7_0; dsimp only at hsQ7; clear hb)
                have hown0 : w1.ownsRow w3'.heap.size 57 4 (.slice da j dc) j (rowsOf insRow ((ps.take j).map fun p => newI ps (insAt is p))) := by
                  have h := hO7.out.1
                  rw [List.length_map, List.length_take, show min j ps.length = j by have := hnp.out; omega] at h
                  exact h
                have hwo := hO7.out.2
                have hzwf : (⟨20, a, (cn : Int), s⟩ : GIns).wf := by rw [← hny.out]; exact newI_wf hxw (by rw [← hnp.out]; exact hPS)
                have hbf := hB2.out hres.out
                have hzw' : newI ps ⟨20, a, b, s⟩ = ⟨20, a, (cn : Int), s⟩ := hny.out
                have hzr := hw.size
                have hzr2 : bI < w1.heap.size := by omega
                have hjs : j ≤ 1048576 := by omega
                replace hown0 := Lib.hid hown0; replace hwo := Lib.hid hwo; replace hzwf := Lib.hid hzwf; replace hbf := Lib.hid hbf; replace hzw' := Lib.hid hzw'
                go_upto_region 27 with ((at_builtin; refine wpList_append_lies _ rfl _ _ _ rfl (w3'.heap.size) 57 iJ _ 4 40 Tryz.underlying27 IJ.out IJ0.out IJ1.out IJ2.out rfl (by omega) (.slice da j dc) (j) (rowsOf insRow ((ps.take j).map fun p => newI ps (insAt is p))) rfl (own_below hown0.out (by go_grown)) ⟨w1.heap.size, 0, none⟩ 1 1 [.int .i64 20, .int .i64 a, .int .i64 (cn : Int), .string s] rfl rfl (World.news_of_block (cs := #[.int .i64 20, .int .i64 a, .int .i64 (cn : Int), .string s]) (t := 57) (fr := (0, 0)) (heap_alloc_new' _ _ _ (by simp))) (by intro u hu; simp at hu; (first | (subst hu; rfl) | (rcases hu with rfl | rfl | rfl | rfl <;> rfl) | (rcases hu with rfl | rfl | rfl | rfl | rfl | rfl | rfl | rfl | rfl <;> rfl))) (by omega) (by unfold maxLen; omega) (by omega) (by simp; omega) _ rfl ?_; intro g2 cap2 w6 hown hgrow hat hlt3); have k6 := kept_of hgrow (w := w1) (by go_grown); have D9 := D7.kept k6 (fun h => by have := (hbO.out _ h.symm).1; omega); have D9W := D7W.kept k6 (fun h => by have := (hbO.out _ h.symm).1; omega); have d9f_0 := D9W.frz 0 (by omega); have d9f_1 := D9W.frz 1 (by omega); obtain ⟨d9_0, d9_1⟩ := D9.box2; have hsD9 := World.block_lt_of_cell? _ _ d9_0; dsimp only at hsD9)
                obtain ⟨w7, hW7⟩ : ∃ W, W = w6.setCell ⟨dD, 0, none⟩ (.slice (some ⟨g2, 0, none⟩) (j + 1) cap2) := ⟨_, rfl⟩
                rw [← hW7]
                have hsA : (w1.alloc (.cells #[.int .i64 20, .int .i64 a, .int .i64 (cn : Int), .string s] 57)).heap.size = w1.heap.size + 1 := by simp
                have hz6 : w1.heap.size + 1 ≤ w6.heap.size := by have := hgrow.size; rw [hsA] at this; exact this
                have hz7 : w6.heap.size ≤ w7.heap.size := by rw [hW7]; simp [World.setCell]
                have k7 : Kept (· = dD) w6 w7 := by rw [hW7]; exact Kept.set (S := (· = dD)) (p := ⟨dD, 0, none⟩) (Kept.refl _ _) rfl _
                have hkE : ∀ q, q < w3'.heap.size → ¬ some q = (Value.slice da j dc).ownBlock := fun q hq h => by have := (hbO.out _ h.symm).1; omega
                have DX : RowAt w7 dD 0 [.slice (some ⟨g2, 0, none⟩) (j + 1) cap2, .slice pa2 m pc2] := by rw [hW7]; exact RowAt.putC D9 (j := 0) (by simp) _
                have DXW : Wr w7 dD 0 2 := by rw [hW7]; exact Wr.set D9W 0 _
                have CX := (C7.kept k6 (hkE _ (by omega))).kept k7 (by omega)
                have EX := (E7.kept k6 (hkE _ (by omega))).kept k7 (by omega)
                have EXW := (E7W.kept k6 (hkE _ (by omega))).kept k7 (by omega)
                have hg2 : w3'.heap.size ≤ g2 := by
                  rcases hat with h | h
                  · exact (hbO.out _ h).1
                  · rw [hsA] at h; omega
                have PX := (hP7.out.kept GPat.ok k6 (fun b hb => hkE b (by have := ltP.out b hb; omega))).kept GPat.ok k7 (fun b hb e => by have := ltP.out b hb; omega)
                have OX : OwnF 57 4 insRow GIns.wf w3'.heap.size w7 (.slice (some ⟨g2, 0, none⟩) (j + 1) cap2) ((ps.take (j + 1)).map fun p => newI ps (insAt is p)) := by
                  refine OwnF.kept (S := (· = dD)) ⟨?_, fun y hy => ?_⟩ k7 (fun x hx e => by
                    obtain rfl : g2 = x := by simpa [Value.ownBlock] using hx
                    omega)
                  · rw [List.length_map, List.length_take, show min (j + 1) ps.length = j + 1 by have := hnp.out; omega, hst.out, rowsOf_append, rowsOf_one, hzw'.out]
                    exact hown
                  · rw [hst.out, hzw'.out] at hy
                    rcases List.mem_append.1 hy with h | h
                    · exact hwo.out y h
                    · simp only [List.mem_singleton] at h; rw [h]; exact hzwf.out
                have hBX : Below w.heap.size w w7 := by
                  rw [hW7]
                  exact (below_grown2 (wr := w1) (w := w) (base := w.heap.size) hgrow (by go_grown) hw hzr (own_lo hown0.out (by omega))).setCell (p := ⟨dD, 0, none⟩) (by show w.heap.size ≤ dD; omega) _
                have hzX : w3'.heap.size ≤ w7.heap.size := by omega
                replace OX := Lib.hid OX; replace PX := Lib.hid PX
                clear hW7 hgrow hown hat hlt3 k6 k7 hkE D9 D9W D7 D7W Q7 Q7W C7 E7 E7W hO7 hP7 hny hres q7_0 q7_1 q7_2 q7_3 hsQ7 q7f_0 q7f_1 q7f_2 q7f_3 d7_0 d7_1 d7f_0 d7f_1 hsD7 d9_0 d9_1 d9f_0 d9f_1 hsD9 hown0 hwo
                go_wp2_with fail
                go_roundw
                case rel => exact ⟨j + 1, .slice (some ⟨g2, 0, none⟩) (j + 1) cap2, by omega, by go_num, hBX, hzX, CX, EX, EXW, DX, DXW, OX, PX, hbf⟩
                case measure => simp [intOf]; omega
            · obtain rfl : b = 0 := hb1.out h20
              obtain ⟨h8, h9, h12, h13, h18⟩ := leadsP_not hld
              have d20 : (op == 20) = false := by simpa using h20
              have htg : tgtP ⟨op, a, 0, s⟩ = [] := by unfold tgtP; rw [if_neg (by rw [hld]; decide), if_neg h20]
              have hnn := newI_none (ps := ps) (x := ⟨op, a, 0, s⟩) (by rw [htg]; rfl)
              have cT := fun W => specTargets_none (y := ⟨op, a, 0, s⟩) (lo := lo) htg W ⟨rfl, hxw⟩
              have hny : Hid (newI ps ⟨op, a, 0, s⟩ = ⟨op, a, 0, s⟩) := hnn.1
              have hres : Hid (badI ps ⟨op, a, 0, s⟩ = false) := hnn.2
              replace cT := Lib.hid cT
              clear hld h20 htg hnn
              have Q7 := Q
              have Q7W := QW
              have C7 := C5
              have E7 := E5
              have E7W := E5W
              have D7 := D5
              have D7W := D5W
              have hO7 := O5
              have hP7 := P5
              have hw := hw4
              clear hw4 Q QW C5 E5 E5W D5 D5W O5 P5
              go_upto_region 26 with (go_at_call 64; (with_reducible refine (cT.out _).mono ?_); rintro e w1 ⟨a4, c4, rfl, hb⟩; have hO7 := Lib.hid (hO7.out.below hb); have hP7 := Lib.hid (hP7.out.below GPat.ok hb); have hw := hw.trans (hb.mono hw.size); have C7 := C7.below hb; obtain ⟨c7_0, c7_1⟩ := C7.box2; have hsC7 := World.block_lt_of_cell? _ _ c7_0; dsimp only at hsC7; have E7W := E7W.below hb; have e7f_0 := E7W.frz 0 (by omega); have e7f_1 := E7W.frz 1 (by omega); have E7 := E7.below hb; obtain ⟨e7_0, e7_1⟩ := E7.box2; have hsE7 := World.block_lt_of_cell? _ _ e7_0; dsimp only at hsE7; have D7W := D7W.below hb; have d7f_0 := D7W.frz 0 (by omega); have d7f_1 := D7W.frz 1 (by omega); have D7 := D7.below hb; obtain ⟨d7_0, d7_1⟩ := D7.box2; have hsD7 := World.block_lt_of_cell? _ _ d7_0; dsimp only at hsD7; have Q7W := Q7W.below hb; have q7f_0 := Q7W.frz 0 (by omega); have q7f_1 := Q7W.frz 1 (by omega); have q7f_2 := Q7W.frz 2 (by omega); have q7f_3 := Q7W.frz 3 (by omega); have Q7 := Q7.below hb; obtain ⟨q7_0, q7_1, q7_2, q7_3⟩ := Q7.box4; have hsQ7 := World.block_lt_of_cell? _ _ q7_0; dsimp only at hsQ7; clear hb)
              have hown0 : w1.ownsRow w3'.heap.size 57 4 (.slice da j dc) j (rowsOf insRow ((ps.take j).map fun p => newI ps (insAt is p))) := by
                have h := hO7.out.1
                rw [List.length_map, List.length_take, show min j ps.length = j by have := hnp.out; omega] at h
                exact h
              have hwo := hO7.out.2
              have hzwf : (⟨op, a, 0, s⟩ : GIns).wf := by rw [← hny.out]; exact newI_wf hxw (by rw [← hnp.out]; exact hPS)
              have hbf := hB2.out hres.out
              have hzw' : newI ps ⟨op, a, 0, s⟩ = ⟨op, a, 0, s⟩ := hny.out
              have hzr := hw.size
              have hzr2 : bI < w1.heap.size := by omega
              have hjs : j ≤ 1048576 := by omega
              replace hown0 := Lib.hid hown0; replace hwo := Lib.hid hwo; replace hzwf := Lib.hid hzwf; replace hbf := Lib.hid hbf; replace hzw' := Lib.hid hzw'
              go_upto_region 27 with ((at_builtin; refine wpList_append_lies _ rfl _ _ _ rfl (w3'.heap.size) 57 iJ _ 4 40 Tryz.underlying27 IJ.out IJ0.out IJ1.out IJ2.out rfl (by omega) (.slice da j dc) (j) (rowsOf insRow ((ps.take j).map fun p => newI ps (insAt is p))) rfl (own_below hown0.out (by go_grown)) ⟨w1.heap.size, 0, none⟩ 1 1 [.int .i64 op, .int .i64 a, .int .i64 0, .string s] rfl rfl (World.news_of_block (cs := #[.int .i64 op, .int .i64 a, .int .i64 0, .string s]) (t := 57) (fr := (0, 0)) (heap_alloc_new' _ _ _ (by simp))) (by intro u hu; simp at hu; (first | (subst hu; rfl) | (rcases hu with rfl | rfl | rfl | rfl <;> rfl) | (rcases hu with rfl | rfl | rfl | rfl | rfl | rfl | rfl | rfl | rfl <;> rfl))) (by omega) (by unfold maxLen; omega) (by omega) (by simp; omega) _ rfl ?_; intro g2 cap2 w6 hown hgrow hat hlt3); have k6 := kept_of hgrow (w := w1) (by go_grown); have D9 := D7.kept k6 (fun h => by have := (hbO.out _ h.symm).1; omega); have D9W := D7W.kept k6 (fun h => by have := (hbO.out _ h.symm).1; omega); have d9f_0 := D9W.frz 0 (by omega); have d9f_1 := D9W.frz 1 (by omega); obtain ⟨d9_0, d9_1⟩ := D9.box2; have hsD9 := World.block_lt_of_cell? _ _ d9_0; dsimp only at hsD9)
              obtain ⟨w7, hW7⟩ : ∃ W, W = w6.setCell ⟨dD, 0, none⟩ (.slice (some ⟨g2, 0, none⟩) (j + 1) cap2) := ⟨_, rfl⟩
              rw [← hW7]
              have hsA : (w1.alloc (.cells #[.int .i64 op, .int .i64 a, .int .i64 0, .string s] 57)).heap.size = w1.heap.size + 1 := by simp
              have hz6 : w1.heap.size + 1 ≤ w6.heap.size := by have := hgrow.size; rw [hsA] at this; exact this
              have hz7 : w6.heap.size ≤ w7.heap.size := by rw [hW7]; simp [World.setCell]
              have k7 : Kept (· = dD) w6 w7 := by rw [hW7]; exact Kept.set (S := (· = dD)) (p := ⟨dD, 0, none⟩) (Kept.refl _ _) rfl _
              have hkE : ∀ q, q < w3'.heap.size → ¬ some q = (Value.slice da j dc).ownBlock := fun q hq h => by have := (hbO.out _ h.symm).1; omega
              have DX : RowAt w7 dD 0 [.slice (some ⟨g2, 0, none⟩) (j + 1) cap2, .slice pa2 m pc2] := by rw [hW7]; exact RowAt.putC D9 (j := 0) (by simp) _
              have DXW : Wr w7 dD 0 2 := by rw [hW7]; exact Wr.set D9W 0 _
              have CX := (C7.kept k6 (hkE _ (by omega))).kept k7 (by omega)
              have EX := (E7.kept k6 (hkE _ (by omega))).kept k7 (by omega)
              have EXW := (E7W.kept k6 (hkE _ (by omega))).kept k7 (by omega)
              have hg2 : w3'.heap.size ≤ g2 := by
                rcases hat with h | h
                · exact (hbO.out _ h).1
                · rw [hsA] at h; omega
              have PX := (hP7.out.kept GPat.ok k6 (fun b hb => hkE b (by have := ltP.out b hb; omega))).kept GPat.ok k7 (fun b hb e => by have := ltP.out b hb; omega)
              have OX : OwnF 57 4 insRow GIns.wf w3'.heap.size w7 (.slice (some ⟨g2, 0, none⟩) (j + 1) cap2) ((ps.take (j + 1)).map fun p => newI ps (insAt is p)) := by
                refine OwnF.kept (S := (· = dD)) ⟨?_, fun y hy => ?_⟩ k7 (fun x hx e => by
                  obtain rfl : g2 = x := by simpa [Value.ownBlock] using hx
                  omega)
                · rw [List.length_map, List.length_take, show min (j + 1) ps.length = j + 1 by have := hnp.out; omega, hst.out, rowsOf_append, rowsOf_one, hzw'.out]
                  exact hown
                · rw [hst.out, hzw'.out] at hy
                  rcases List.mem_append.1 hy with h | h
                  · exact hwo.out y h
                  · simp only [List.mem_singleton] at h; rw [h]; exact hzwf.out
              have hBX : Below w.heap.size w w7 := by
                rw [hW7]
                exact (below_grown2 (wr := w1) (w := w) (base := w.heap.size) hgrow (by go_grown) hw hzr (own_lo hown0.out (by omega))).setCell (p := ⟨dD, 0, none⟩) (by show w.heap.size ≤ dD; omega) _
              have hzX : w3'.heap.size ≤ w7.heap.size := by omega
              replace OX := Lib.hid OX; replace PX := Lib.hid PX
              clear hW7 hgrow hown hat hlt3 k6 k7 hkE D9 D9W D7 D7W Q7 Q7W C7 E7 E7W hO7 hP7 hny hres q7_0 q7_1 q7_2 q7_3 hsQ7 q7f_0 q7f_1 q7f_2 q7f_3 d7_0 d7_1 d7f_0 d7f_1 hsD7 d9_0 d9_1 d9f_0 d9f_1 hsD9 hown0 hwo
              go_wp2_with fail
              go_roundw
              case rel => exact ⟨j + 1, .slice (some ⟨g2, 0, none⟩) (j + 1) cap2, by omega, by go_num, hBX, hzX, CX, EX, EXW, DX, DXW, OX, PX, hbf⟩
              case measure => simp [intOf]; omega
          · have hb0 : b = 0 := hb1.out (fun e => by rw [e] at hld; cases hld)
            subst hb0
            rcases leadsP_cases hld with rfl | rfl | rfl | rfl | rfl
            · have hnew := newI_leads (ps := ps) (x := ⟨8, a, 0, s⟩) rfl
              dsimp only at hnew
              have hbd' : badI ps ⟨8, a, 0, s⟩ = decide (k ≤ cntLt ps a) := by rw [hnp.out]; exact hnew.2.2
              have hny : newI ps ⟨8, a, 0, s⟩ = ⟨8, (cntLt ps a : Nat), 0, s⟩ := hnew.2.1
              have cq := cN.out a w4 hw4
              have hcl1 := hcl.out a
              clear hnew
              generalize cntLt ps a = cn at hbd' hny cq hcl1
              have hcn64 : I64 ((cn : Nat) : Int) := by constructor <;> omega
              have cT := fun W => specTargets_one (y := ⟨8, (cn : Int), 0, s⟩) (lo := lo) (t := (cn : Int)) (newI_leads (ps := ps) (x := ⟨8, (cn : Int), 0, s⟩) rfl).1 W ⟨rfl, by (obtain ⟨q0, q1, q2, q3⟩ := hxw; exact ⟨q0, hcn64, q2, q3⟩)⟩
              replace cq := Lib.hid cq; replace hny := Lib.hid hny; replace hbd' := Lib.hid hbd'; replace cT := Lib.hid cT
              go_upto_region 24 with (go_at_call 63; (with_reducible refine (cq.out).mono ?_); rintro e w6 ⟨rfl, rfl⟩)
              obtain ⟨w7, hW7⟩ : ∃ W, W = w4.setCell ⟨bI, 1, none⟩ (.int .i64 (cn : Int)) := ⟨_, rfl⟩
              rw [← hW7]
              have kk : Kept (· = bI) w4 w7 := by rw [hW7]; exact Kept.set (S := (· = bI)) (p := ⟨bI, 1, none⟩) (Kept.refl _ _) rfl _
              have Q7 : RowAt w7 bI 0 [.int .i64 8, .int .i64 (cn : Int), .int .i64 0, .string s] := by rw [hW7]; exact RowAt.putC Q (j := 1) (by simp) _
              have Q7W : Wr w7 bI 0 4 := by rw [hW7]; exact Wr.set QW 1 _
              have C7 := C5.kept kk (by omega)
              have E7 := E5.kept kk (by omega)
              have E7W := E5W.kept kk (by omega)
              have D7 := D5.kept kk (by omega)
              have D7W := D5W.kept kk (by omega)
              have hO7 := Lib.hid (O5.out.kept kk (fun x hx e => by have := (hbO.out x hx).2; omega))
              have hP7 := Lib.hid (P5.out.kept GPat.ok kk (fun b hb e => by have := ltP.out b hb; omega))
              have hw : Below w.heap.size w w7 := by rw [hW7]; exact hw4.setCell (p := ⟨bI, 1, none⟩) hzw4 _
              clear hW7 kk Q QW C5 E5 E5W D5 D5W O5 P5 q_0 q_1 q_2 q_3 hsQ qf_0 qf_1 qf_2 qf_3 e5_0 e5_1 e5f_0 e5f_1 hsE5 d5_0 d5_1 d5f_0 d5f_1 hsD5 cq hw4
              have q7f_0 := Q7W.frz 0 (by omega); have q7f_1 := Q7W.frz 1 (by omega); have q7f_2 := Q7W.frz 2 (by omega); have q7f_3 := Q7W.frz 3 (by omega); obtain ⟨q7_0, q7_1, q7_2, q7_3⟩ := Q7.box4; have hsQ7 := World.block_lt_of_cell? _ _ q7_0; dsimp only at hsQ7; have e7f_0 := E7W.frz 0 (by omega); have e7f_1 := E7W.frz 1 (by omega); obtain ⟨e7_0, e7_1⟩ := E7.box2; have hsE7 := World.block_lt_of_cell? _ _ e7_0; dsimp only at hsE7; have d7f_0 := D7W.frz 0 (by omega); have d7f_1 := D7W.frz 1 (by omega); obtain ⟨d7_0, d7_1⟩ := D7.box2; have hsD7 := World.block_lt_of_cell? _ _ d7_0; dsimp only at hsD7
              by_cases hbb : k ≤ cn
              · have hres := hbd.out (by rw [hbd'.out]; exact decide_eq_true hbb)
                have d1 : decide ((k : Int) ≤ (cn : Int)) = true := decide_eq_true (by omega)
                have d2 : decide (k ≤ cn) = true := decide_eq_true hbb
                replace hres := Lib.hid hres
                clear hbb hbd' hny
                go_upto_region 25 with (go_at_call 64; (with_reducible refine (cT.out _).mono ?_); rintro e w1 ⟨b4, o4, c4, rfl, v_0, hb⟩; have hO7 := Lib.hid (hO7.out.below hb); have hP7 := Lib.hid (hP7.out.below GPat.ok hb); have hw := hw.trans (hb.mono hw.size); have C7 := C7.below hb; obtain ⟨c7_0, c7_1⟩ := C7.box2; have hsC7 := World.block_lt_of_cell? _ _ c7_0; dsimp only at hsC7; have E7W := E7W.below hb; have e7f_0 := E7W.frz 0 (by omega); have e7f_1 := E7W.frz 1 (by omega); have E7 := E7.below hb; obtain ⟨e7_0, e7_1⟩ := E7.box2; have hsE7 := World.block_lt_of_cell? _ _ e7_0; dsimp only at hsE7; have D7W := D7W.below hb; have d7f_0 := D7W.frz 0 (by omega); have d7f_1 := D7W.frz 1 (by omega); have D7 := D7.below hb; obtain ⟨d7_0, d7_1⟩ := D7.box2; have hsD7 := World.block_lt_of_cell? _ _ d7_0; dsimp only at hsD7; have Q7W := Q7W.below hb; have q7f_0 := Q7W.frz 0 (by omega); have q7f_1 := Q7W.frz 1 (by omega); have q7f_2 := Q7W.frz 2 (by omega); have q7f_3 := Q7W.frz 3 (by omega); have Q7 := Q7.below hb; obtain ⟨q7_0, q7_1, q7_2, q7_3⟩ := Q7.box4; have hsQ7 := World.block_lt_of_cell? _ _ q7_0; dsimp only at hsQ7; clear hb)
                repeat (first | go_values | go_skip | go_guarded | go_step | go_upon)
                try simp only [Exit.inBlock, Exit.then]
                obtain ⟨w9, hw9, g_0, g_1, k9, b9⟩ := set2_box (lo := w.heap.size) (.slice none 0 0) (.slice none 0 0) e7_0 e7_1 (by omega)
                rw [← hw9]
                refine bodyPost_ret (ret_code_tmp (a := 4) (b := 5) Tryz.results35 rfl rfl g_0 g_1) rfl ?_
                rw [hres.out]
                exact KeepPost.zero (hw.trans b9)
              · have d1 : decide ((k : Int) ≤ (cn : Int)) = false := decide_eq_false (by omega)
                have d2 : decide (k ≤ cn) = false := decide_eq_false hbb
                have hres : Hid (badI ps ⟨8, a, 0, s⟩ = false) := by show _ = _; rw [hbd'.out]; exact d2
                clear hbb hbd'
                go_upto_region 26 with (go_at_call 64; (with_reducible refine (cT.out _).mono ?_); rintro e w1 ⟨b4, o4, c4, rfl, v_0, hb⟩; have hO7 := Lib.hid (hO7.out.below hb); have hP7 := Lib.hid (hP7.out.below GPat.ok hb); have hw := hw.trans (hb.mono hw.size); have C7 := C7.below hb; obtain ⟨c7_0, c7_1⟩ := C7.box2; have hsC7 := World.block_lt_of_cell? _ _ c7_0; dsimp only at hsC7; have E7W := E7W.below hb; have e7f_0 := E7W.frz 0 (by omega); have e7f_1 := E7W.frz 1 (by omega); have E7 := E7.below hb; obtain ⟨e7_0, e7_1⟩ := E7.box2; have hsE7 := World.block_lt_of_cell? _ _ e7_0; dsimp only at hsE7; have D7W := D7W.below hb; have d7f_0 := D7W.frz 0 (by omega); have d7f_1 := D7W.frz 1 (by omega); have D7 := D7.below hb; obtain ⟨d7_0, d7_1⟩ := D7.box2; have hsD7 := World.block_lt_of_cell? _ _ d7_0; dsimp only at hsD7; have Q7W := Q7W.below hb; have q7f_0 := Q7W.frz 0 (by omega); have q7f_1 := Q7W.frz 1 (by omega); have q7f_2 := Q7W.frz 2 (by omega); have q7f_3 := Q7W.frz 3 (by omega); have Q7 := Q7.below hb; obtain ⟨q7_0, q7_1, q7_2, q7_3⟩ := Q7.box4; have hsQ7 := World.block_lt_of_cell? _ _ q7_0; dsimp only at hsQ7; clear hb)
                have hown0 : w1.ownsRow w3'.heap.size 57 4 (.slice da j dc) j (rowsOf insRow ((ps.take j).map fun p => newI ps (insAt is p))) := by
                  have h := hO7.out.1
                  rw [List.length_map, List.length_take, show min j ps.length = j by have := hnp.out; omega] at h
                  exact h
                have hwo := hO7.out.2
                have hzwf : (⟨8, (cn : Int), 0, s⟩ : GIns).wf := by rw [← hny.out]; exact newI_wf hxw (by rw [← hnp.out]; exact hPS)
                have hbf := hB2.out hres.out
                have hzw' : newI ps ⟨8, a, 0, s⟩ = ⟨8, (cn : Int), 0, s⟩ := hny.out
                have hzr := hw.size
                have hzr2 : bI < w1.heap.size := by omega
                have hjs : j ≤ 1048576 := by omega
                replace hown0 := Lib.hid hown0; replace hwo := Lib.hid hwo; replace hzwf := Lib.hid hzwf; replace hbf := Lib.hid hbf; replace hzw' := Lib.hid hzw'
                go_upto_region 27 with ((at_builtin; refine wpList_append_lies _ rfl _ _ _ rfl (w3'.heap.size) 57 iJ _ 4 40 Tryz.underlying27 IJ.out IJ0.out IJ1.out IJ2.out rfl (by omega) (.slice da j dc) (j) (rowsOf insRow ((ps.take j).map fun p => newI ps (insAt is p))) rfl (own_below hown0.out (by go_grown)) ⟨w1.heap.size, 0, none⟩ 1 1 [.int .i64 8, .int .i64 (cn : Int), .int .i64 0, .string s] rfl rfl (World.news_of_block (cs := #[.int .i64 8, .int .i64 (cn : Int), .int .i64 0, .string s]) (t := 57) (fr := (0, 0)) (heap_alloc_new' _ _ _ (by simp))) (by intro u hu; simp at hu; (first | (subst hu; rfl) | (rcases hu with rfl | rfl | rfl | rfl <;> rfl) | (rcases hu with rfl | rfl | rfl | rfl | rfl | rfl | rfl | rfl | rfl <;> rfl))) (by omega) (by unfold maxLen; omega) (by omega) (by simp; omega) _ rfl ?_; intro g2 cap2 w6 hown hgrow hat hlt3); have k6 := kept_of hgrow (w := w1) (by go_grown); have D9 := D7.kept k6 (fun h => by have := (hbO.out _ h.symm).1; omega); have D9W := D7W.kept k6 (fun h => by have := (hbO.out _ h.symm).1; omega); have d9f_0 := D9W.frz 0 (by omega); have d9f_1 := D9W.frz 1 (by omega); obtain ⟨d9_0, d9_1⟩ := D9.box2; have hsD9 := World.block_lt_of_cell? _ _ d9_0; dsimp only at hsD9)
                obtain ⟨w7, hW7⟩ : ∃ W, W = w6.setCell ⟨dD, 0, none⟩ (.slice (some ⟨g2, 0, none⟩) (j + 1) cap2) := ⟨_, rfl⟩
                rw [← hW7]
                have hsA : (w1.alloc (.cells #[.int .i64 8, .int .i64 (cn : Int), .int .i64 0, .string s] 57)).heap.size = w1.heap.size + 1 := by simp
                have hz6 : w1.heap.size + 1 ≤ w6.heap.size := by have := hgrow.size; rw [hsA] at this; exact this
                have hz7 : w6.heap.size ≤ w7.heap.size := by rw [hW7]; simp [World.setCell]
                have k7 : Kept (· = dD) w6 w7 := by rw [hW7]; exact Kept.set (S := (· = dD)) (p := ⟨dD, 0, none⟩) (Kept.refl _ _) rfl _
                have hkE : ∀ q, q < w3'.heap.size → ¬ some q = (Value.slice da j dc).ownBlock := fun q hq h => by have := (hbO.out _ h.symm).1; omega
                have DX : RowAt w7 dD 0 [.slice (some ⟨g2, 0, none⟩) (j + 1) cap2, .slice pa2 m pc2] := by rw [hW7]; exact RowAt.putC D9 (j := 0) (by simp) _
                have DXW : Wr w7 dD 0 2 := by rw [hW7]; exact Wr.set D9W 0 _
                have CX := (C7.kept k6 (hkE _ (by omega))).kept k7 (by omega)
                have EX := (E7.kept k6 (hkE _ (by omega))).kept k7 (by omega)
                have EXW := (E7W.kept k6 (hkE _ (by omega))).kept k7 (by omega)
                have hg2 : w3'.heap.size ≤ g2 := by
                  rcases hat with h | h
                  · exact (hbO.out _ h).1
                  · rw [hsA] at h; omega
                have PX := (hP7.out.kept GPat.ok k6 (fun b hb => hkE b (by have := ltP.out b hb; omega))).kept GPat.ok k7 (fun b hb e => by have := ltP.out b hb; omega)
                have OX : OwnF 57 4 insRow GIns.wf w3'.heap.size w7 (.slice (some ⟨g2, 0, none⟩) (j + 1) cap2) ((ps.take (j + 1)).map fun p => newI ps (insAt is p)) := by
                  refine OwnF.kept (S := (· = dD)) ⟨?_, fun y hy => ?_⟩ k7 (fun x hx e => by
                    obtain rfl : g2 = x := by simpa [Value.ownBlock] using hx
                    omega)
                  · rw [List.length_map, List.length_take, show min (j + 1) ps.length = j + 1 by have := hnp.out; omega, hst.out, rowsOf_append, rowsOf_one, hzw'.out]
                    exact hown
                  · rw [hst.out, hzw'.out] at hy
                    rcases List.mem_append.1 hy with h | h
                    · exact hwo.out y h
                    · simp only [List.mem_singleton] at h; rw [h]; exact hzwf.out
                have hBX : Below w.heap.size w w7 := by
                  rw [hW7]
                  exact (below_grown2 (wr := w1) (w := w) (base := w.heap.size) hgrow (by go_grown) hw hzr (own_lo hown0.out (by omega))).setCell (p := ⟨dD, 0, none⟩) (by show w.heap.size ≤ dD; omega) _
                have hzX : w3'.heap.size ≤ w7.heap.size := by omega
                replace OX := Lib.hid OX; replace PX := Lib.hid PX
                clear hW7 hgrow hown hat hlt3 k6 k7 hkE D9 D9W D7 D7W Q7 Q7W C7 E7 E7W hO7 hP7 hny hres q7_0 q7_1 q7_2 q7_3 hsQ7 q7f_0 q7f_1 q7f_2 q7f_3 d7_0 d7_1 d7f_0 d7f_1 hsD7 d9_0 d9_1 d9f_0 d9f_1 hsD9 hown0 hwo
                go_wp2_with fail
                go_roundw
                case rel => exact ⟨j + 1, .slice (some ⟨g2, 0, none⟩) (j + 1) cap2, by omega, by go_num, hBX, hzX, CX, EX, EXW, DX, DXW, OX, PX, hbf⟩
                case measure => simp [intOf]; omega
            · have hnew := newI_leads (ps := ps) (x := ⟨9, a, 0, s⟩) rfl
              dsimp only at hnew
              have hbd' : badI ps ⟨9, a, 0, s⟩ = decide (k ≤ cntLt ps a) := by rw [hnp.out]; exact hnew.2.2
              have hny : newI ps ⟨9, a, 0, s⟩ = ⟨9, (cntLt ps a : Nat), 0, s⟩ := hnew.2.1
              have cq := cN.out a w4 hw4
              have hcl1 := hcl.out a
              clear hnew
              generalize cntLt ps a = cn at hbd' hny cq hcl1
              have hcn64 : I64 ((cn : Nat) : Int) := by constructor <;> omega
              have cT := fun W => specTargets_one (y := ⟨9, (cn : Int), 0, s⟩) (lo := lo) (t := (cn : Int)) (newI_leads (ps := ps) (x := ⟨9, (cn : Int), 0, s⟩) rfl).1 W ⟨rfl, by (obtain ⟨q0, q1, q2, q3⟩ := hxw; exact ⟨q0, hcn64, q2, q3⟩)⟩
              replace cq := Lib.hid cq; replace hny := Lib.hid hny; replace hbd' := Lib.hid hbd'; replace cT := Lib.hid cT
              go_upto_region 24 with (go_at_call 63; (with_reducible refine (cq.out).mono ?_); rintro e w6 ⟨rfl, rfl⟩)
              obtain ⟨w7, hW7⟩ : ∃ W, W = w4.setCell ⟨bI, 1, none⟩ (.int .i64 (cn : Int)) := ⟨_, rfl⟩
              rw [← hW7]
              have kk : Kept (· = bI) w4 w7 := by rw [hW7]; exact Kept.set (S := (· = bI)) (p := ⟨bI, 1, none⟩) (Kept.refl _ _) rfl _
              have Q7 : RowAt w7 bI 0 [.int .i64 9, .int .i64 (cn : Int), .int .i64 0, .string s] := by rw [hW7]; exact RowAt.putC Q (j := 1) (by simp) _
              have Q7W : Wr w7 bI 0 4 := by rw [hW7]; exact Wr.set QW 1 _
              have C7 := C5.kept kk (by omega)
              have E7 := E5.kept kk (by omega)
              have E7W := E5W.kept kk (by omega)
              have D7 := D5.kept kk (by omega)
              have D7W := D5W.kept kk (by omega)
              have hO7 := Lib.hid (O5.out.kept kk (fun x hx e => by have := (hbO.out x hx).2; omega))
              have hP7 := Lib.hid (P5.out.kept GPat.ok kk (fun b hb e => by have := ltP.out b hb; omega))
              have hw : Below w.heap.size w w7 := by rw [hW7]; exact hw4.setCell (p := ⟨bI, 1, none⟩) hzw4 _
              clear hW7 kk Q QW C5 E5 E5W D5 D5W O5 P5 q_0 q_1 q_2 q_3 hsQ qf_0 qf_1 qf_2 qf_3 e5_0 e5_1 e5f_0 e5f_1 hsE5 d5_0 d5_1 d5f_0 d5f_1 hsD5 cq hw4
              have q7f_0 := Q7W.frz 0 (by omega); have q7f_1 := Q7W.frz 1 (by omega); have q7f_2 := Q7W.frz 2 (by omega); have q7f_3 := Q7W.frz 3 (by omega); obtain ⟨q7_0, q7_1, q7_2, q7_3⟩ := Q7.box4; have hsQ7 := World.block_lt_of_cell? _ _ q7_0; dsimp only at hsQ7; have e7f_0 := E7W.frz 0 (by omega); have e7f_1 := E7W.frz 1 (by omega); obtain ⟨e7_0, e7_1⟩ := E7.box2; have hsE7 := World.block_lt_of_cell? _ _ e7_0; dsimp only at hsE7; have d7f_0 := D7W.frz 0 (by omega); have d7f_1 := D7W.frz 1 (by omega); obtain ⟨d7_0, d7_1⟩ := D7.box2; have hsD7 := World.block_lt_of_cell? _ _ d7_0; dsimp only at hsD7
              by_cases hbb : k ≤ cn
              · have hres := hbd.out (by rw [hbd'.out]; exact decide_eq_true hbb)
                have d1 : decide ((k : Int) ≤ (cn : Int)) = true := decide_eq_true (by omega)
                have d2 : decide (k ≤ cn) = true := decide_eq_true hbb
                replace hres := Lib.hid hres
                clear hbb hbd' hny
                go_upto_region 25 with (go_at_call 64; (with_reducible refine (cT.out _).mono ?_); rintro e w1 ⟨b4, o4, c4, rfl, v_0, hb⟩; have hO7 := Lib.hid (hO7.out.below hb); have hP7 := Lib.hid (hP7.out.below GPat.ok hb); have hw := hw.trans (hb.mono hw.size); have C7 := C7.below hb; obtain ⟨c7_0, c7_1⟩ := C7.box2; have hsC7 := World.block_lt_of_cell? _ _ c7_0; dsimp only at hsC7; have E7W := E7W.below hb; have e7f_0 := E7W.frz 0 (by omega); have e7f_1 := E7W.frz 1 (by omega); have E7 := E7.below hb; obtain ⟨e7_0, e7_1⟩ := E7.box2; have hsE7 := World.block_lt_of_cell? _ _ e7_0; dsimp only at hsE7; have D7W := D7W.below hb; have d7f_0 := D7W.frz 0 (by omega); have d7f_1 := D7W.frz 1 (by omega); have D7 := D7.below hb; obtain ⟨d7_0, d7_1⟩ := D7.box2; have hsD7 := World.block_lt_of_cell? _ _ d7_0; dsimp only at hsD7; have Q7W := Q7W.below hb; have q7f_0 := Q7W.frz 0 (by omega); have q7f_1 := Q7W.frz 1 (by omega); have q7f_2 := Q7W.frz 2 (by omega); have q7f_3 := Q7W.frz 3 (by omega); have Q7 := Q7.below hb; obtain ⟨q7_0, q7_1, q7_2, q7_3⟩ := Q7.box4; have hsQ7 := World.block_lt_of_cell? _ _ q7_0; dsimp only at hsQ7; clear hb)
                repeat (first | go_values | go_skip | go_guarded | go_step | go_upon)
                try simp only [Exit.inBlock, Exit.then]
                obtain ⟨w9, hw9, g_0, g_1, k9, b9⟩ := set2_box (lo := w.heap.size) (.slice none 0 0) (.slice none 0 0) e7_0 e7_1 (by omega)
                rw [← hw9]
                refine bodyPost_ret (ret_code_tmp (a := 4) (b := 5) Tryz.results35 rfl rfl g_0 g_1) rfl ?_
                rw [hres.out]
                exact KeepPost.zero (hw.trans b9)
              · have d1 : decide ((k : Int) ≤ (cn : Int)) = false := decide_eq_false (by omega)
                have d2 : decide (k ≤ cn) = false := decide_eq_false hbb
                have hres : Hid (badI ps ⟨9, a, 0, s⟩ = false) := by show _ = _; rw [hbd'.out]; exact d2
                clear hbb hbd'
                go_upto_region 26 with (go_at_call 64; (with_reducible refine (cT.out _).mono ?_); rintro e w1 ⟨b4, o4, c4, rfl, v_0, hb⟩; have hO7 := Lib.hid (hO7.out.below hb); have hP7 := Lib.hid (hP7.out.below GPat.ok hb); have hw := hw.trans (hb.mono hw.size); have C7 := C7.below hb; obtain ⟨c7_0, c7_1⟩ := C7.box2; have hsC7 := World.block_lt_of_cell? _ _ c7_0; dsimp only at hsC7; have E7W := E7W.below hb; have e7f_0 := E7W.frz 0 (by omega); have e7f_1 := E7W.frz 1 (by omega); have E7 := E7.below hb; obtain ⟨e7_0, e7_1⟩ := E7.box2; have hsE7 := World.block_lt_of_cell? _ _ e7_0; dsimp only at hsE7; have D7W := D7W.below hb; have d7f_0 := D7W.frz 0 (by omega); have d7f_1 := D7W.frz 1 (by omega); have D7 := D7.below hb; obtain ⟨d7_0, d7_1⟩ := D7.box2; have hsD7 := World.block_lt_of_cell? _ _ d7_0; dsimp only at hsD7; have Q7W := Q7W.below hb; have q7f_0 := Q7W.frz 0 (by omega); have q7f_1 := Q7W.frz 1 (by omega); have q7f_2 := Q7W.frz 2 (by omega); have q7f_3 := Q7W.frz 3 (by omega); have Q7 := Q7.below hb; obtain ⟨q7_0, q7_1, q7_2, q7_3⟩ := Q7.box4; have hsQ7 := World.block_lt_of_cell? _ _ q7_0; dsimp only at hsQ7; clear hb)
                have hown0 : w1.ownsRow w3'.heap.size 57 4 (.slice da j dc) j (rowsOf insRow ((ps.take j).map fun p => newI ps (insAt is p))) := by
                  have h := hO7.out.1
                  rw [List.length_map, List.length_take, show min j ps.length = j by have := hnp.out; omega] at h
                  exact h
                have hwo := hO7.out.2
                have hzwf : (⟨9, (cn : Int), 0, s⟩ : GIns).wf := by rw [← hny.out]; exact newI_wf hxw (by rw [← hnp.out]; exact hPS)
                have hbf := hB2.out hres.out
                have hzw' : newI ps ⟨9, a, 0, s⟩ = ⟨9, (cn : Int), 0, s⟩ := hny.out
                have hzr := hw.size
                have hzr2 : bI < w1.heap.size := by omega
                have hjs : j ≤ 1048576 := by omega
                replace hown0 := Lib.hid hown0; replace hwo := Lib.hid hwo; replace hzwf := Lib.hid hzwf; replace hbf := Lib.hid hbf; replace hzw' := Lib.hid hzw'
                go_upto_region 27 with ((at_builtin; refine wpList_append_lies _ rfl _ _ _ rfl (w3'.heap.size) 57 iJ _ 4 40 Tryz.underlying27 IJ.out IJ0.out IJ1.out IJ2.out rfl (by omega) (.slice da j dc) (j) (rowsOf insRow ((ps.take j).map fun p => newI ps (insAt is p))) rfl (own_below hown0.out (by go_grown)) ⟨w1.heap.size, 0, none⟩ 1 1 [.int .i64 9, .int .i64 (cn : Int), .int .i64 0, .string s] rfl rfl (World.news_of_block (cs := #[.int .i64 9, .int .i64 (cn : Int), .int .i64 0, .string s]) (t := 57) (fr := (0, 0)) (heap_alloc_new' _ _ _ (by simp))) (by intro u hu; simp at hu; (first | (subst hu; rfl) | (rcases hu with rfl | rfl | rfl | rfl <;> rfl) | (rcases hu with rfl | rfl | rfl | rfl | rfl | rfl | rfl | rfl | rfl <;> rfl))) (by omega) (by unfold maxLen; omega) (by omega) (by simp; omega) _ rfl ?_; intro g2 cap2 w6 hown hgrow hat hlt3); have k6 := kept_of hgrow (w := w1) (by go_grown); have D9 := D7.kept k6 (fun h => by have := (hbO.out _ h.symm).1; omega); have D9W := D7W.kept k6 (fun h => by have := (hbO.out _ h.symm).1; omega); have d9f_0 := D9W.frz 0 (by omega); have d9f_1 := D9W.frz 1 (by omega); obtain ⟨d9_0, d9_1⟩ := D9.box2; have hsD9 := World.block_lt_of_cell? _ _ d9_0; dsimp only at hsD9)
                obtain ⟨w7, hW7⟩ : ∃ W, W = w6.setCell ⟨dD, 0, none⟩ (.slice (some ⟨g2, 0, none⟩) (j + 1) cap2) := ⟨_, rfl⟩
                rw [← hW7]
                have hsA : (w1.alloc (.cells #[.int .i64 9, .int .i64 (cn : Int), .int .i64 0, .string s] 57)).heap.size = w1.heap.size + 1 := by simp
                have hz6 : w1.heap.size + 1 ≤ w6.heap.size := by have := hgrow.size; rw [hsA] at this; exact this
                have hz7 : w6.heap.size ≤ w7.heap.size := by rw [hW7]; simp [World.setCell]
                have k7 : Kept (· = dD) w6 w7 := by rw [hW7]; exact Kept.set (S := (· = dD)) (p := ⟨dD, 0, none⟩) (Kept.refl _ _) rfl _
                have hkE : ∀ q, q < w3'.heap.size → ¬ some q = (Value.slice da j dc).ownBlock := fun q hq h => by have := (hbO.out _ h.symm).1; omega
                have DX : RowAt w7 dD 0 [.slice (some ⟨g2, 0, none⟩) (j + 1) cap2, .slice pa2 m pc2] := by rw [hW7]; exact RowAt.putC D9 (j := 0) (by simp) _
                have DXW : Wr w7 dD 0 2 := by rw [hW7]; exact Wr.set D9W 0 _
                have CX := (C7.kept k6 (hkE _ (by omega))).kept k7 (by omega)
                have EX := (E7.kept k6 (hkE _ (by omega))).kept k7 (by omega)
                have EXW := (E7W.kept k6 (hkE _ (by omega))).kept k7 (by omega)
                have hg2 : w3'.heap.size ≤ g2 := by
                  rcases hat with h | h
                  · exact (hbO.out _ h).1
                  · rw [hsA] at h; omega
                have PX := (hP7.out.kept GPat.ok k6 (fun b hb => hkE b (by have := ltP.out b hb; omega))).kept GPat.ok k7 (fun b hb e => by have := ltP.out b hb; omega)
                have OX : OwnF 57 4 insRow GIns.wf w3'.heap.size w7 (.slice (some ⟨g2, 0, none⟩) (j + 1) cap2) ((ps.take (j + 1)).map fun p => newI ps (insAt is p)) := by
                  refine OwnF.kept (S := (· = dD)) ⟨?_, fun y hy => ?_⟩ k7 (fun x hx e => by
                    obtain rfl : g2 = x := by simpa [Value.ownBlock] using hx
                    omega)
                  · rw [List.length_map, List.length_take, show min (j + 1) ps.length = j + 1 by have := hnp.out; omega, hst.out, rowsOf_append, rowsOf_one, hzw'.out]
                    exact hown
                  · rw [hst.out, hzw'.out] at hy
                    rcases List.mem_append.1 hy with h | h
                    · exact hwo.out y h
                    · simp only [List.mem_singleton] at h; rw [h]; exact hzwf.out
                have hBX : Below w.heap.size w w7 := by
                  rw [hW7]
                  exact (below_grown2 (wr := w1) (w := w) (base := w.heap.size) hgrow (by go_grown) hw hzr (own_lo hown0.out (by omega))).setCell (p := ⟨dD, 0, none⟩) (by show w.heap.size ≤ dD; omega) _
                have hzX : w3'.heap.size ≤ w7.heap.size := by omega
                replace OX := Lib.hid OX; replace PX := Lib.hid PX
                clear hW7 hgrow hown hat hlt3 k6 k7 hkE D9 D9W D7 D7W Q7 Q7W C7 E7 E7W hO7 hP7 hny hres q7_0 q7_1 q7_2 q7_3 hsQ7 q7f_0 q7f_1 q7f_2 q7f_3 d7_0 d7_1 d7f_0 d7f_1 hsD7 d9_0 d9_1 d9f_0 d9f_1 hsD9 hown0 hwo
                go_wp2_with fail
                go_roundw
                case rel => exact ⟨j + 1, .slice (some ⟨g2, 0, none⟩) (j + 1) cap2, by omega, by go_num, hBX, hzX, CX, EX, EXW, DX, DXW, OX, PX, hbf⟩
                case measure => simp [intOf]; omega
            · have hnew := newI_leads (ps := ps) (x := ⟨12, a, 0, s⟩) rfl
              dsimp only at hnew
              have hbd' : badI ps ⟨12, a, 0, s⟩ = decide (k ≤ cntLt ps a) := by rw [hnp.out]; exact hnew.2.2
              have hny : newI ps ⟨12, a, 0, s⟩ = ⟨12, (cntLt ps a : Nat), 0, s⟩ := hnew.2.1
              have cq := cN.out a w4 hw4
              have hcl1 := hcl.out a
              clear hnew
              generalize cntLt ps a = cn at hbd' hny cq hcl1
              have hcn64 : I64 ((cn : Nat) : Int) := by constructor <;> omega
              have cT := fun W => specTargets_one (y := ⟨12, (cn : Int), 0, s⟩) (lo := lo) (t := (cn : Int)) (newI_leads (ps := ps) (x := ⟨12, (cn : Int), 0, s⟩) rfl).1 W ⟨rfl, by (obtain ⟨q0, q1, q2, q3⟩ := hxw; exact ⟨q0, hcn64, q2, q3⟩)⟩
              replace cq := Lib.hid cq; replace hny := Lib.hid hny; replace hbd' := Lib.hid hbd'; replace cT := Lib.hid cT
              go_upto_region 24 with (go_at_call 63; (with_reducible refine (cq.out).mono ?_); rintro e w6 ⟨rfl, rfl⟩)
              obtain ⟨w7, hW7⟩ : ∃ W, W = w4.setCell ⟨bI, 1, none⟩ (.int .i64 (cn : Int)) := ⟨_, rfl⟩
              rw [← hW7]
              have kk : Kept (· = bI) w4 w7 := by rw [hW7]; exact Kept.set (S := (· = bI)) (p := ⟨bI, 1, none⟩) (Kept.refl _ _) rfl _
              have Q7 : RowAt w7 bI 0 [.int .i64 12, .int .i64 (cn : Int), .int .i64 0, .string s] := by rw [hW7]; exact RowAt.putC Q (j := 1) (by simp) _
              have Q7W : Wr w7 bI 0 4 := by rw [hW7]; exact Wr.set QW 1 _
              have C7 := C5.kept kk (by omega)
              have E7 := E5.kept kk (by omega)
              have E7W := E5W.kept kk (by omega)
              have D7 := D5.kept kk (by omega)
              have D7W := D5W.kept kk (by omega)
              have hO7 := Lib.hid (O5.out.kept kk (fun x hx e => by have := (hbO.out x hx).2; omega))
              have hP7 := Lib.hid (P5.out.kept GPat.ok kk (fun b hb e => by have := ltP.out b hb; omega))
              have hw : Below w.heap.size w w7 := by rw [hW7]; exact hw4.setCell (p := ⟨bI, 1, none⟩) hzw4 _
              clear hW7 kk Q QW C5 E5 E5W D5 D5W O5 P5 q_0 q_1 q_2 q_3 hsQ qf_0 qf_1 qf_2 qf_3 e5_0 e5_1 e5f_0 e5f_1 hsE5 d5_0 d5_1 d5f_0 d5f_1 hsD5 cq hw4
              have q7f_0 := Q7W.frz 0 (by omega); have q7f_1 := Q7W.frz 1 (by omega); have q7f_2 := Q7W.frz 2 (by omega); have q7f_3 := Q7W.frz 3 (by omega); obtain ⟨q7_0, q7_1, q7_2, q7_3⟩ := Q7.box4; have hsQ7 := World.block_lt_of_cell? _ _ q7_0; dsimp only at hsQ7; have e7f_0 := E7W.frz 0 (by omega); have e7f_1 := E7W.frz 1 (by omega); obtain ⟨e7_0, e7_1⟩ := E7.box2; have hsE7 := World.block_lt_of_cell? _ _ e7_0; dsimp only at hsE7; have d7f_0 := D7W.frz 0 (by omega); have d7f_1 := D7W.frz 1 (by omega); obtain ⟨d7_0, d7_1⟩ := D7.box2; have hsD7 := World.block_lt_of_cell? _ _ d7_0; dsimp only at hsD7
              by_cases hbb : k ≤ cn
              · have hres := hbd.out (by rw [hbd'.out]; exact decide_eq_true hbb)
                have d1 : decide ((k : Int) ≤ (cn : Int)) = true := decide_eq_true (by omega)
                have d2 : decide (k ≤ cn) = true := decide_eq_true hbb
                replace hres := Lib.hid hres
                clear hbb hbd' hny
                go_upto_region 25 with (go_at_call 64; (with_reducible refine (cT.out _).mono ?_); rintro e w1 ⟨b4, o4, c4, rfl, v_0, hb⟩; have hO7 := Lib.hid (hO7.out.below hb); have hP7 := Lib.hid (hP7.out.below GPat.ok hb); have hw := hw.trans (hb.mono hw.size); have C7 := C7.below hb; obtain ⟨c7_0, c7_1⟩ := C7.box2; have hsC7 := World.block_lt_of_cell? _ _ c7_0; dsimp only at hsC7; have E7W := E7W.below hb; have e7f_0 := E7W.frz 0 (by omega); have e7f_1 := E7W.frz 1 (by omega); have E7 := E7.below hb; obtain ⟨e7_0, e7_1⟩ := E7.box2; have hsE7 := World.block_lt_of_cell? _ _ e7_0; dsimp only at hsE7; have D7W := D7W.below hb; have d7f_0 := D7W.frz 0 (by omega); have d7f_1 := D7W.frz 1 (by omega); have D7 := D7.below hb; obtain ⟨d7_0, d7_1⟩ := D7.box2; have hsD7 := World.block_lt_of_cell? _ _ d7_0; dsimp only at hsD7; have Q7W := Q7W.below hb; have q7f_0 := Q7W.frz 0 (by omega); have q7f_1 := Q7W.frz 1 (by omega); have q7f_2 := Q7W.frz 2 (by omega); have q7f_3 := Q7W.frz 3 (by omega); have Q7 := Q7.below hb; obtain ⟨q7_0, q7_1, q7_2, q7_3⟩ := Q7.box4; have hsQ7 := World.block_lt_of_cell? _ _ q7_0; dsimp only at hsQ7; clear hb)
                repeat (first | go_values | go_skip | go_guarded | go_step | go_upon)
                try simp only [Exit.inBlock, Exit.then]
                obtain ⟨w9, hw9, g_0, g_1, k9, b9⟩ := set2_box (lo := w.heap.size) (.slice none 0 0) (.slice none 0 0) e7_0 e7_1 (by omega)
                rw [← hw9]
                refine bodyPost_ret (ret_code_tmp (a := 4) (b := 5) Tryz.results35 rfl rfl g_0 g_1) rfl ?_
                rw [hres.out]
                exact KeepPost.zero (hw.trans b9)
              · have d1 : decide ((k : Int) ≤ (cn : Int)) = false := decide_eq_false (by omega)
                have d2 : decide (k ≤ cn) = false := decide_eq_false hbb
                have hres : Hid (badI ps ⟨12, a, 0, s⟩ = false) := by show _ = _; rw [hbd'.out]; exact d2
                clear hbb hbd'
                go_upto_region 26 with (go_at_call 64; (with_reducible refine (cT.out _).mono ?_); rintro e w1 ⟨b4, o4, c4, rfl, v_0, hb⟩; have hO7 := Lib.hid (hO7.out.below hb); have hP7 := Lib.hid (hP7.out.below GPat.ok hb); have hw := hw.trans (hb.mono hw.size); have C7 := C7.below hb; obtain ⟨c7_0, c7_1⟩ := C7.box2; have hsC7 := World.block_lt_of_cell? _ _ c7_0; dsimp only at hsC7; have E7W := E7W.below hb; have e7f_0 := E7W.frz 0 (by omega); have e7f_1 := E7W.frz 1 (by omega); have E7 := E7.below hb; obtain ⟨e7_0, e7_1⟩ := E7.box2; have hsE7 := World.block_lt_of_cell? _ _ e7_0; dsimp only at hsE7; have D7W := D7W.below hb; have d7f_0 := D7W.frz 0 (by omega); have d7f_1 := D7W.frz 1 (by omega); have D7 := D7.below hb; obtain ⟨d7_0, d7_1⟩ := D7.box2; have hsD7 := World.block_lt_of_cell? _ _ d7_0; dsimp only at hsD7; have Q7W := Q7W.below hb; have q7f_0 := Q7W.frz 0 (by omega); have q7f_1 := Q7W.frz 1 (by omega); have q7f_2 := Q7W.frz 2 (by omega); have q7f_3 := Q7W.frz 3 (by omega); have Q7 := Q7.below hb; obtain ⟨q7_0, q7_1, q7_2, q7_3⟩ := Q7.box4; have hsQ7 := World.block_lt_of_cell? _ _ q7_0; dsimp only at hsQ7; clear hb)
                have hown0 : w1.ownsRow w3'.heap.size 57 4 (.slice da j dc) j (rowsOf insRow ((ps.take j).map fun p => newI ps (insAt is p))) := by
                  have h := hO7.out.1
                  rw [List.length_map, List.length_take, show min j ps.length = j by have := hnp.out; omega] at h
                  exact h
                have hwo := hO7.out.2
                have hzwf : (⟨12, (cn : Int), 0, s⟩ : GIns).wf := by rw [← hny.out]; exact newI_wf hxw (by rw [← hnp.out]; exact hPS)
                have hbf := hB2.out hres.out
                have hzw' : newI ps ⟨12, a, 0, s⟩ = ⟨12, (cn : Int), 0, s⟩ := hny.out
                have hzr := hw.size
                have hzr2 : bI < w1.heap.size := by omega
                have hjs : j ≤ 1048576 := by omega
                replace hown0 := Lib.hid hown0; replace hwo := Lib.hid hwo; replace hzwf := Lib.hid hzwf; replace hbf := Lib.hid hbf; replace hzw' := Lib.hid hzw'
                go_upto_region 27 with ((at_builtin; refine wpList_append_lies _ rfl _ _ _ rfl (w3'.heap.size) 57 iJ _ 4 40 Tryz.underlying27 IJ.out IJ0.out IJ1.out IJ2.out rfl (by omega) (.slice da j dc) (j) (rowsOf insRow ((ps.take j).map fun p => newI ps (insAt is p))) rfl (own_below hown0.out (by go_grown)) ⟨w1.heap.size, 0, none⟩ 1 1 [.int .i64 12, .int .i64 (cn : Int), .int .i64 0, .string s] rfl rfl (World.news_of_block (cs := #[.int .i64 12, .int .i64 (cn : Int), .int .i64 0, .string s]) (t := 57) (fr := (0, 0)) (heap_alloc_new' _ _ _ (by simp))) (by intro u hu; simp at hu; (first | (subst hu; rfl) | (rcases hu with rfl | rfl | rfl | rfl <;> rfl) | (rcases hu with rfl | rfl | rfl | rfl | rfl | rfl | rfl | rfl | rfl <;> rfl))) (by omega) (by unfold maxLen; omega) (by omega) (by simp; omega) _ rfl ?_; intro g2 cap2 w6 hown hgrow hat hlt3); have k6 := kept_of hgrow (w := w1) (by go_grown); have D9 := D7.kept k6 (fun h => by have := (hbO.out _ h.symm).1; omega); have D9W := D7W.kept k6 (fun h => by have := (hbO.out _ h.symm).1; omega); have d9f_0 := D9W.frz 0 (by omega); have d9f_1 := D9W.frz 1 (by omega); obtain ⟨d9_0, d9_1⟩ := D9.box2; have hsD9 := World.block_lt_of_cell? _ _ d9_0; dsimp only at hsD9)
                obtain ⟨w7, hW7⟩ : ∃ W, W = w6.setCell ⟨dD, 0, none⟩ (.slice (some ⟨g2, 0, none⟩) (j + 1) cap2) := ⟨_, rfl⟩
                rw [← hW7]
                have hsA : (w1.alloc (.cells #[.int .i64 12, .int .i64 (cn : Int), .int .i64 0, .string s] 57)).heap.size = w1.heap.size + 1 := by simp
                have hz6 : w1.heap.size + 1 ≤ w6.heap.size := by have := hgrow.size; rw [hsA] at this; exact this
                have hz7 : w6.heap.size ≤ w7.heap.size := by rw [hW7]; simp [World.setCell]
                have k7 : Kept (· = dD) w6 w7 := by rw [hW7]; exact Kept.set (S := (· = dD)) (p := ⟨dD, 0, none⟩) (Kept.refl _ _) rfl _
                have hkE : ∀ q, q < w3'.heap.size → ¬ some q = (Value.slice da j dc).ownBlock := fun q hq h => by have := (hbO.out _ h.symm).1; omega
                have DX : RowAt w7 dD 0 [.slice (some ⟨g2, 0, none⟩) (j + 1) cap2, .slice pa2 m pc2] := by rw [hW7]; exact RowAt.putC D9 (j := 0) (by simp) _
                have DXW : Wr w7 dD 0 2 := by rw [hW7]; exact Wr.set D9W 0 _
                have CX := (C7.kept k6 (hkE _ (by omega))).kept k7 (by omega)
                have EX := (E7.kept k6 (hkE _ (by omega))).kept k7 (by omega)
                have EXW := (E7W.kept k6 (hkE _ (by omega))).kept k7 (by omega)
                have hg2 : w3'.heap.size ≤ g2 := by
                  rcases hat with h | h
                  · exact (hbO.out _ h).1
                  · rw [hsA] at h; omega
                have PX := (hP7.out.kept GPat.ok k6 (fun b hb => hkE b (by have := ltP.out b hb; omega))).kept GPat.ok k7 (fun b hb e => by have := ltP.out b hb; omega)
                have OX : OwnF 57 4 insRow GIns.wf w3'.heap.size w7 (.slice (some ⟨g2, 0, none⟩) (j + 1) cap2) ((ps.take (j + 1)).map fun p => newI ps (insAt is p)) := by
                  refine OwnF.kept (S := (· = dD)) ⟨?_, fun y hy => ?_⟩ k7 (fun x hx e => by
                    obtain rfl : g2 = x := by simpa [Value.ownBlock] using hx
                    omega)
                  · rw [List.length_map, List.length_take, show min (j + 1) ps.length = j + 1 by have := hnp.out; omega, hst.out, rowsOf_append, rowsOf_one, hzw'.out]
                    exact hown
                  · rw [hst.out, hzw'.out] at hy
                    rcases List.mem_append.1 hy with h | h
                    · exact hwo.out y h
                    · simp only [List.mem_singleton] at h; rw [h]; exact hzwf.out
                have hBX : Below w.heap.size w w7 := by
                  rw [hW7]
                  exact (below_grown2 (wr := w1) (w := w) (base := w.heap.size) hgrow (by go_grown) hw hzr (own_lo hown0.out (by omega))).setCell (p := ⟨dD, 0, none⟩) (by show w.heap.size ≤ dD; omega) _
                have hzX : w3'.heap.size ≤ w7.heap.size := by omega
                replace OX := Lib.hid OX; replace PX := Lib.hid PX
                clear hW7 hgrow hown hat hlt3 k6 k7 hkE D9 D9W D7 D7W Q7 Q7W C7 E7 E7W hO7 hP7 hny hres q7_0 q7_1 q7_2 q7_3 hsQ7 q7f_0 q7f_1 q7f_2 q7f_3 d7_0 d7_1 d7f_0 d7f_1 hsD7 d9_0 d9_1 d9f_0 d9f_1 hsD9 hown0 hwo
                go_wp2_with fail
                go_roundw
                case rel => exact ⟨j + 1, .slice (some ⟨g2, 0, none⟩) (j + 1) cap2, by omega, by go_num, hBX, hzX, CX, EX, EXW, DX, DXW, OX, PX, hbf⟩
                case measure => simp [intOf]; omega
            · have hnew := newI_leads (ps := ps) (x := ⟨13, a, 0, s⟩) rfl
              dsimp only at hnew
              have hbd' : badI ps ⟨13, a, 0, s⟩ = decide (k ≤ cntLt ps a) := by rw [hnp.out]; exact hnew.2.2
              have hny : newI ps ⟨13, a, 0, s⟩ = ⟨13, (cntLt ps a : Nat), 0, s⟩ := hnew.2.1
              have cq := cN.out a w4 hw4
              have hcl1 := hcl.out a
              clear hnew
              generalize cntLt ps a = cn at hbd' hny cq hcl1
              have hcn64 : I64 ((cn : Nat) : Int) := by constructor <;> omega
              have cT := fun W => specTargets_one (y := ⟨13, (cn : Int), 0, s⟩) (lo := lo) (t := (cn : Int)) (newI_leads (ps := ps) (x := ⟨13, (cn : Int), 0, s⟩) rfl).1 W ⟨rfl, by (obtain ⟨q0, q1, q2, q3⟩ := hxw; exact ⟨q0, hcn64, q2, q3⟩)⟩
              replace cq := Lib.hid cq; replace hny := Lib.hid hny; replace hbd' := Lib.hid hbd'; replace cT := Lib.hid cT
              go_upto_region 24 with (go_at_call 63; (with_reducible refine (cq.out).mono ?_); rintro e w6 ⟨rfl, rfl⟩)
              obtain ⟨w7, hW7⟩ : ∃ W, W = w4.setCell ⟨bI, 1, none⟩ (.int .i64 (cn : Int)) := ⟨_, rfl⟩
              rw [← hW7]
              have kk : Kept (· = bI) w4 w7 := by rw [hW7]; exact Kept.set (S := (· = bI)) (p := ⟨bI, 1, none⟩) (Kept.refl _ _) rfl _
              have Q7 : RowAt w7 bI 0 [.int .i64 13, .int .i64 (cn : Int), .int .i64 0, .string s] := by rw [hW7]; exact RowAt.putC Q (j := 1) (by simp) _
              have Q7W : Wr w7 bI 0 4 := by rw [hW7]; exact Wr.set QW 1 _
              have C7 := C5.kept kk (by omega)
              have E7 := E5.kept kk (by omega)
              have E7W := E5W.kept kk (by omega)
              have D7 := D5.kept kk (by omega)
              have D7W := D5W.kept kk (by omega)
              have hO7 := Lib.hid (O5.out.kept kk (fun x hx e => by have := (hbO.out x hx).2; omega))
              have hP7 := Lib.hid (P5.out.kept GPat.ok kk (fun b hb e => by have := ltP.out b hb; omega))
              have hw : Below w.heap.size w w7 := by rw [hW7]; exact hw4.setCell (p := ⟨bI, 1, none⟩) hzw4 _
              clear hW7 kk Q QW C5 E5 E5W D5 D5W O5 P5 q_0 q_1 q_2 q_3 hsQ qf_0 qf_1 qf_2 qf_3 e5_0 e5_1 e5f_0 e5f_1 hsE5 d5_0 d5_1 d5f_0 d5f_1 hsD5 cq hw4
              have q7f_0 := Q7W.frz 0 (by omega); have q7f_1 := Q7W.frz 1 (by omega); have q7f_2 := Q7W.frz 2 (by omega); have q7f_3 := Q7W.frz 3 (by omega); obtain ⟨q7_0, q7_1, q7_2, q7_3⟩ := Q7.box4; have hsQ7 := World.block_lt_of_cell? _ _ q7_0; dsimp only at hsQ7; have e7f_0 := E7W.frz 0 (by omega); have e7f_1 := E7W.frz 1 (by omega); obtain ⟨e7_0, e7_1⟩ := E7.box2; have hsE7 := World.block_lt_of_cell? _ _ e7_0; dsimp only at hsE7; have d7f_0 := D7W.frz 0 (by omega); have d7f_1 := D7W.frz 1 (by omega); obtain ⟨d7_0, d7_1⟩ := D7.box2; have hsD7 := World.block_lt_of_cell? _ _ d7_0; dsimp only at hsD7
              by_cases hbb : k ≤ cn
              · have hres := hbd.out (by rw [hbd'.out]; exact decide_eq_true hbb)
                have d1 : decide ((k : Int) ≤ (cn : Int)) = true := decide_eq_true (by omega)
                have d2 : decide (k ≤ cn) = true := decide_eq_true hbb
                replace hres := Lib.hid hres
                clear hbb hbd' hny
                go_upto_region 25 with (go_at_call 64; (with_reducible refine (cT.out _).mono ?_); rintro e w1 ⟨b4, o4, c4, rfl, v_0, hb⟩; have hO7 := Lib.hid (hO7.out.below hb); have hP7 := Lib.hid (hP7.out.below GPat.ok hb); have hw := hw.trans (hb.mono hw.size); have C7 := C7.below hb; obtain ⟨c7_0, c7_1⟩ := C7.box2; have hsC7 := World.block_lt_of_cell? _ _ c7_0; dsimp only at hsC7; have E7W := E7W.below hb; have e7f_0 := E7W.frz 0 (by omega); have e7f_1 := E7W.frz 1 (by omega); have E7 := E7.below hb; obtain ⟨e7_0, e7_1⟩ := E7.box2; have hsE7 := World.block_lt_of_cell? _ _ e7_0; dsimp only at hsE7; have D7W := D7W.below hb; have d7f_0 := D7W.frz 0 (by omega); have d7f_1 := D7W.frz 1 (by omega); have D7 := D7.below hb; obtain ⟨d7_0, d7_1⟩ := D7.box2; have hsD7 := World.block_lt_of_cell? _ _ d7_0; dsimp only at hsD7; have Q7W := Q7W.below hb; have q7f_0 := Q7W.frz 0 (by omega); have q7f_1 := Q7W.frz 1 (by omega); have q7f_2 := Q7W.frz 2 (by omega); have q7f_3 := Q7W.frz 3 (by omega); have Q7 := Q7.below hb; obtain ⟨q7_0, q7_1, q7_2, q7_3⟩ := Q7.box4; have hsQ7 := World.block_lt_of_cell? _ _ q7_0; dsimp only at hsQ7; clear hb)
                repeat (first | go_values | go_skip | go_guarded | go_step | go_upon)
                try simp only [Exit.inBlock, Exit.then]
                obtain ⟨w9, hw9, g_0, g_1, k9, b9⟩ := set2_box (lo := w.heap.size) (.slice none 0 0) (.slice none 0 0) e7_0 e7_1 (by omega)
                rw [← hw9]
                refine bodyPost_ret (ret_code_tmp (a := 4) (b := 5) Tryz.results35 rfl rfl g_0 g_1) rfl ?_
                rw [hres.out]
                exact KeepPost.zero (hw.trans b9)
              · have d1 : decide ((k : Int) ≤ (cn : Int)) = false := decide_eq_false (by omega)
                have d2 : decide (k ≤ cn) = false := decide_eq_false hbb
                have hres : Hid (badI ps ⟨13, a, 0, s⟩ = false) := by show _ = _; rw [hbd'.out]; exact d2
                clear hbb hbd'
                go_upto_region 26 with (go_at_call 64; (with_reducible refine (cT.out _).mono ?_); rintro e w1 ⟨b4, o4, c4, rfl, v_0, hb⟩; have hO7 := Lib.hid (hO7.out.below hb); have hP7 := Lib.hid (hP7.out.below GPat.ok hb); have hw := hw.trans (hb.mono hw.size); have C7 := C7.below hb; obtain ⟨c7_0, c7_1⟩ := C7.box2; have hsC7 := World.block_lt_of_cell? _ _ c7_0; dsimp only at hsC7; have E7W := E7W.below hb; have e7f_0 := E7W.frz 0 (by omega); have e7f_1 := E7W.frz 1 (by omega); have E7 := E7.below hb; obtain ⟨e7_0, e7_1⟩ := E7.box2; have hsE7 := World.block_lt_of_cell? _ _ e7_0; dsimp only at hsE7; have D7W := D7W.below hb; have d7f_0 := D7W.frz 0 (by omega); have d7f_1 := D7W.frz 1 (by omega); have D7 := D7.below hb; obtain ⟨d7_0, d7_1⟩ := D7.box2; have hsD7 := World.block_lt_of_cell? _ _ d7_0; dsimp only at hsD7; have Q7W := Q7W.below hb; have q7f_0 := Q7W.frz 0 (by omega); have q7f_1 := Q7W.frz 1 (by omega); have q7f_2 := Q7W.frz 2 (by omega); have q7f_3 := Q7W.frz 3 (by omega); have Q7 := Q7.below hb; obtain ⟨q7_0, q7_1, q7_2, q7_3⟩ := Q7.box4; have hsQ7 := World.block_lt_of_cell? _ _ q7_0; dsimp only at hsQ7; clear hb)
                have hown0 : w1.ownsRow w3'.heap.size 57 4 (.slice da j dc) j (rowsOf insRow ((ps.take j).map fun p => newI ps (insAt is p))) := by
                  have h := hO7.out.1
                  rw [List.length_map, List.length_take, show min j ps.length = j by have := hnp.out; omega] at h
                  exact h
                have hwo := hO7.out.2
                have hzwf : (⟨13, (cn : Int), 0, s⟩ : GIns).wf := by rw [← hny.out]; exact newI_wf hxw (by rw [← hnp.out]; exact hPS)
                have hbf := hB2.out hres.out
                have hzw' : newI ps ⟨13, a, 0, s⟩ = ⟨13, (cn : Int), 0, s⟩ := hny.out
                have hzr := hw.size
                have hzr2 : bI < w1.heap.size := by omega
                have hjs : j ≤ 1048576 := by omega
                replace hown0 := Lib.hid hown0; replace hwo := Lib.hid hwo; replace hzwf := Lib.hid hzwf; replace hbf := Lib.hid hbf; replace hzw' := Lib.hid hzw'
                go_upto_region 27 with ((at_builtin; refine wpList_append_lies _ rfl _ _ _ rfl (w3'.heap.size) 57 iJ _ 4 40 Tryz.underlying27 IJ.out IJ0.out IJ1.out IJ2.out rfl (by omega) (.slice da j dc) (j) (rowsOf insRow ((ps.take j).map fun p => newI ps (insAt is p))) rfl (own_below hown0.out (by go_grown)) ⟨w1.heap.size, 0, none⟩ 1 1 [.int .i64 13, .int .i64 (cn : Int), .int .i64 0, .string s] rfl rfl (World.news_of_block (cs := #[.int .i64 13, .int .i64 (cn : Int), .int .i64 0, .string s]) (t := 57) (fr := (0, 0)) (heap_alloc_new' _ _ _ (by simp))) (by intro u hu; simp at hu; (first | (subst hu; rfl) | (rcases hu with rfl | rfl | rfl | rfl <;> rfl) | (rcases hu with rfl | rfl | rfl | rfl | rfl | rfl | rfl | rfl | rfl <;> rfl))) (by omega) (by unfold maxLen; omega) (by omega) (by simp; omega) _ rfl ?_; intro g2 cap2 w6 hown hgrow hat hlt3); have k6 := kept_of hgrow (w := w1) (by go_grown); have D9 := D7.kept k6 (fun h => by have := (hbO.out _ h.symm).1; omega); have D9W := D7W.kept k6 (fun h => by have := (hbO.out _ h.symm).1; omega); have d9f_0 := D9W.frz 0 (by omega); have d9f_1 := D9W.frz 1 (by omega); obtain ⟨d9_0, d9_1⟩ := D9.box2; have hsD9 := World.block_lt_of_cell? _ _ d9_0; dsimp only at hsD9)
                obtain ⟨w7, hW7⟩ : ∃ W, W = w6.setCell ⟨dD, 0, none⟩ (.slice (some ⟨g2, 0, none⟩) (j + 1) cap2) := ⟨_, rfl⟩
                rw [← hW7]
                have hsA : (w1.alloc (.cells #[.int .i64 13, .int .i64 (cn : Int), .int .i64 0, .string s] 57)).heap.size = w1.heap.size + 1 := by simp
                have hz6 : w1.heap.size + 1 ≤ w6.heap.size := by have := hgrow.size; rw [hsA] at this; exact this
                have hz7 : w6.heap.size ≤ w7.heap.size := by rw [hW7]; simp [World.setCell]
                have k7 : Kept (· = dD) w6 w7 := by rw [hW7]; exact Kept.set (S := (· = dD)) (p := ⟨dD, 0, none⟩) (Kept.refl _ _) rfl _
                have hkE : ∀ q, q < w3'.heap.size → ¬ some q = (Value.slice da j dc).ownBlock := fun q hq h => by have := (hbO.out _ h.symm).1; omega
                have DX : RowAt w7 dD 0 [.slice (some ⟨g2, 0, none⟩) (j + 1) cap2, .slice pa2 m pc2] := by rw [hW7]; exact RowAt.putC D9 (j := 0) (by simp) _
                have DXW : Wr w7 dD 0 2 := by rw [hW7]; exact Wr.set D9W 0 _
                have CX := (C7.kept k6 (hkE _ (by omega))).kept k7 (by omega)
                have EX := (E7.kept k6 (hkE _ (by omega))).kept k7 (by omega)
                have EXW := (E7W.kept k6 (hkE _ (by omega))).kept k7 (by omega)
                have hg2 : w3'.heap.size ≤ g2 := by
                  rcases hat with h | h
                  · exact (hbO.out _ h).1
                  · rw [hsA] at h; omega
                have PX := (hP7.out.kept GPat.ok k6 (fun b hb => hkE b (by have := ltP.out b hb; omega))).kept GPat.ok k7 (fun b hb e => by have := ltP.out b hb; omega)
                have OX : OwnF 57 4 insRow GIns.wf w3'.heap.size w7 (.slice (some ⟨g2, 0, none⟩) (j + 1) cap2) ((ps.take (j + 1)).map fun p => newI ps (insAt is p)) := by
                  refine OwnF.kept (S := (· = dD)) ⟨?_, fun y hy => ?_⟩ k7 (fun x hx e => by
                    obtain rfl : g2 = x := by simpa [Value.ownBlock] using hx
                    omega)
                  · rw [List.length_map, List.length_take, show min (j + 1) ps.length = j + 1 by have := hnp.out; omega, hst.out, rowsOf_append, rowsOf_one, hzw'.out]
                    exact hown
                  · rw [hst.out, hzw'.out] at hy
                    rcases List.mem_append.1 hy with h | h
                    · exact hwo.out y h
                    · simp only [List.mem_singleton] at h; rw [h]; exact hzwf.out
                have hBX : Below w.heap.size w w7 := by
                  rw [hW7]
                  exact (below_grown2 (wr := w1) (w := w) (base := w.heap.size) hgrow (by go_grown) hw hzr (own_lo hown0.out (by omega))).setCell (p := ⟨dD, 0, none⟩) (by show w.heap.size ≤ dD; omega) _
                have hzX : w3'.heap.size ≤ w7.heap.size := by omega
                replace OX := Lib.hid OX; replace PX := Lib.hid PX
                clear hW7 hgrow hown hat hlt3 k6 k7 hkE D9 D9W D7 D7W Q7 Q7W C7 E7 E7W hO7 hP7 hny hres q7_0 q7_1 q7_2 q7_3 hsQ7 q7f_0 q7f_1 q7f_2 q7f_3 d7_0 d7_1 d7f_0 d7f_1 hsD7 d9_0 d9_1 d9f_0 d9f_1 hsD9 hown0 hwo
                go_wp2_with fail
                go_roundw
                case rel => exact ⟨j + 1, .slice (some ⟨g2, 0, none⟩) (j + 1) cap2, by omega, by go_num, hBX, hzX, CX, EX, EXW, DX, DXW, OX, PX, hbf⟩
                case measure => simp [intOf]; omega
            · have hnew := newI_leads (ps := ps) (x := ⟨18, a, 0, s⟩) rfl
              dsimp only at hnew
              have hbd' : badI ps ⟨18, a, 0, s⟩ = decide (k ≤ cntLt ps a) := by rw [hnp.out]; exact hnew.2.2
              have hny : newI ps ⟨18, a, 0, s⟩ = ⟨18, (cntLt ps a : Nat), 0, s⟩ := hnew.2.1
              have cq := cN.out a w4 hw4
              have hcl1 := hcl.out a
              clear hnew
              generalize cntLt ps a = cn at hbd' hny cq hcl1
              have hcn64 : I64 ((cn : Nat) : Int) := by constructor <;> omega
              have cT := fun W => specTargets_one (y := ⟨18, (cn : Int), 0, s⟩) (lo := lo) (t := (cn : Int)) (newI_leads (ps := ps) (x := ⟨18, (cn : Int), 0, s⟩) rfl).1 W ⟨rfl, by (obtain ⟨q0, q1, q2, q3⟩ := hxw; exact ⟨q0, hcn64, q2, q3⟩)⟩
              replace cq := Lib.hid cq; replace hny := Lib.hid hny; replace hbd' := Lib.hid hbd'; replace cT := Lib.hid cT
              go_upto_region 24 with (go_at_call 63; (with_reducible refine (cq.out).mono ?_); rintro e w6 ⟨rfl, rfl⟩)
              obtain ⟨w7, hW7⟩ : ∃ W, W = w4.setCell ⟨bI, 1, none⟩ (.int .i64 (cn : Int)) := ⟨_, rfl⟩
              rw [← hW7]
              have kk : Kept (· = bI) w4 w7 := by rw [hW7]; exact Kept.set (S := (· = bI)) (p := ⟨bI, 1, none⟩) (Kept.refl _ _) rfl _
              have Q7 : RowAt w7 bI 0 [.int .i64 18, .int .i64 (cn : Int), .int .i64 0, .string s] := by rw [hW7]; exact RowAt.putC Q (j := 1) (by simp) _
              have Q7W : Wr w7 bI 0 4 := by rw [hW7]; exact Wr.set QW 1 _
              have C7 := C5.kept kk (by omega)
              have E7 := E5.kept kk (by omega)
              have E7W := E5W.kept kk (by omega)
              have D7 := D5.kept kk (by omega)
              have D7W := D5W.kept kk (by omega)
              have hO7 := Lib.hid (O5.out.kept kk (fun x hx e => by have := (hbO.out x hx).2; omega))
              have hP7 := Lib.hid (P5.out.kept GPat.ok kk (fun b hb e => by have := ltP.out b hb; omega))
              have hw : Below w.heap.size w w7 := by rw [hW7]; exact hw4.setCell (p := ⟨bI, 1, none⟩) hzw4 _
              clear hW7 kk Q QW C5 E5 E5W D5 D5W O5 P5 q_0 q_1 q_2 q_3 hsQ qf_0 qf_1 qf_2 qf_3 e5_0 e5_1 e5f_0 e5f_1 hsE5 d5_0 d5_1 d5f_0 d5f_1 hsD5 cq hw4
              have q7f_0 := Q7W.frz 0 (by omega); have q7f_1 := Q7W.frz 1 (by omega); have q7f_2 := Q7W.frz 2 (by omega); have q7f_3 := Q7W.frz 3 (by omega); obtain ⟨q7_0, q7_1, q7_2, q7_3⟩ := Q7.box4; have hsQ7 := World.block_lt_of_cell? _ _ q7_0; dsimp only at hsQ7; have e7f_0 := E7W.frz 0 (by omega); have e7f_1 := E7W.frz 1 (by omega); obtain ⟨e7_0, e7_1⟩ := E7.box2; have hsE7 := World.block_lt_of_cell? _ _ e7_0; dsimp only at hsE7; have d7f_0 := D7W.frz 0 (by omega); have d7f_1 := D7W.frz 1 (by omega); obtain ⟨d7_0, d7_1⟩ := D7.box2; have hsD7 := World.block_lt_of_cell? _ _ d7_0; dsimp only at hsD7
              by_cases hbb : k ≤ cn
              · have hres := hbd.out (by rw [hbd'.out]; exact decide_eq_true hbb)
                have d1 : decide ((k : Int) ≤ (cn : Int)) = true := decide_eq_true (by omega)
                have d2 : decide (k ≤ cn) = true := decide_eq_true hbb
                replace hres := Lib.hid hres
                clear hbb hbd' hny
                go_upto_region 25 with (go_at_call 64; (with_reducible refine (cT.out _).mono ?_); rintro e w1 ⟨b4, o4, c4, rfl, v_0, hb⟩; have hO7 := Lib.hid (hO7.out.below hb); have hP7 := Lib.hid (hP7.out.below GPat.ok hb); have hw := hw.trans (hb.mono hw.size); have C7 := C7.below hb; obtain ⟨c7_0, c7_1⟩ := C7.box2; have hsC7 := World.block_lt_of_cell? _ _ c7_0; dsimp only at hsC7; have E7W := E7W.below hb; have e7f_0 := E7W.frz 0 (by omega); have e7f_1 := E7W.frz 1 (by omega); have E7 := E7.below hb; obtain ⟨e7_0, e7_1⟩ := E7.box2; have hsE7 := World.block_lt_of_cell? _ _ e7_0; dsimp only at hsE7; have D7W := D7W.below hb; have d7f_0 := D7W.frz 0 (by omega); have d7f_1 := D7W.frz 1 (by omega); have D7 := D7.below hb; obtain ⟨d7_0, d7_1⟩ := D7.box2; have hsD7 := World.block_lt_of_cell? _ _ d7_0; dsimp only at hsD7; have Q7W := Q7W.below hb; have q7f_0 := Q7W.frz 0 (by omega); have q7f_1 := Q7W.frz 1 (by omega); have q7f_2 := Q7W.frz 2 (by omega); have q7f_3 := Q7W.frz 3 (by omega); have Q7 := Q7.below hb; obtain ⟨q7_0, q7_1, q7_2, q7_3⟩ := Q7.box4; have hsQ7 := World.block_lt_of_cell? _ _ q7_0; dsimp only at hsQ7; clear hb)
                repeat (first | go_values | go_skip | go_guarded | go_step | go_upon)
                try simp only [Exit.inBlock, Exit.then]
                obtain ⟨w9, hw9, g_0, g_1, k9, b9⟩ := set2_box (lo := w.heap.size) (.slice none 0 0) (.slice none 0 0) e7_0 e7_1 (by omega)
                rw [← hw9]
                refine bodyPost_ret (ret_code_tmp (a := 4) (b := 5) Tryz.results35 rfl rfl g_0 g_1) rfl ?_
                rw [hres.out]
                exact KeepPost.zero (hw.trans b9)
              · have d1 : decide ((k : Int) ≤ (cn : Int)) = false := decide_eq_false (by omega)
                have d2 : decide (k ≤ cn) = false := decide_eq_false hbb
                have hres : Hid (badI ps ⟨18, a, 0, s⟩ = false) := by show _ = _; rw [hbd'.out]; exact d2
                clear hbb hbd'
                go_upto_region 26 with (go_at_call 64; (with_reducible refine (cT.out _).mono ?_); rintro e w1 ⟨b4, o4, c4, rfl, v_0, hb⟩; have hO7 := Lib.hid (hO7.out.below hb); have hP7 := Lib.hid (hP7.out.below GPat.ok hb); have hw := hw.trans (hb.mono hw.size); have C7 := C7.below hb; obtain ⟨c7_0, c7_1⟩ := C7.box2; have hsC7 := World.block_lt_of_cell? _ _ c7_0; dsimp only at hsC7; have E7W := E7W.below hb; have e7f_0 := E7W.frz 0 (by omega); have e7f_1 := E7W.frz 1 (by omega); have E7 := E7.below hb; obtain ⟨e7_0, e7_1⟩ := E7.box2; have hsE7 := World.block_lt_of_cell? _ _ e7_0; dsimp only at hsE7; have D7W := D7W.below hb; have d7f_0 := D7W.frz 0 (by omega); have d7f_1 := D7W.frz 1 (by omega); have D7 := D7.below hb; obtain ⟨d7_0, d7_1⟩ := D7.box2; have hsD7 := World.block_lt_of_cell? _ _ d7_0; dsimp only at hsD7; have Q7W := Q7W.below hb; have q7f_0 := Q7W.frz 0 (by omega); have q7f_1 := Q7W.frz 1 (by omega); have q7f_2 := Q7W.frz 2 (by omega); have q7f_3 := Q7W.frz 3 (by omega); have Q7 := Q7.below hb; obtain ⟨q7_0, q7_1, q7_2, q7_3⟩ := Q7.box4; have hsQ7 := World.block_lt_of_cell? _ _ q7_0; dsimp only at hsQ7; clear hb)
                have hown0 : w1.ownsRow w3'.heap.size 57 4 (.slice da j dc) j (rowsOf insRow ((ps.take j).map fun p => newI ps (insAt is p))) := by
                  have h := hO7.out.1
                  rw [List.length_map, List.length_take, show min j ps.length = j by have := hnp.out; omega] at h
                  exact h
                have hwo := hO7.out.2
                have hzwf : (⟨18, (cn : Int), 0, s⟩ : GIns).wf := by rw [← hny.out]; exact newI_wf hxw (by rw [← hnp.out]; exact hPS)
                have hbf := hB2.out hres.out
                have hzw' : newI ps ⟨18, a, 0, s⟩ = ⟨18, (cn : Int), 0, s⟩ := hny.out
                have hzr := hw.size
                have hzr2 : bI < w1.heap.size := by omega
                have hjs : j ≤ 1048576 := by omega
                replace hown0 := Lib.hid hown0; replace hwo := Lib.hid hwo; replace hzwf := Lib.hid hzwf; replace hbf := Lib.hid hbf; replace hzw' := Lib.hid hzw'
                go_upto_region 27 with ((at_builtin; refine wpList_append_lies _ rfl _ _ _ rfl (w3'.heap.size) 57 iJ _ 4 40 Tryz.underlying27 IJ.out IJ0.out IJ1.out IJ2.out rfl (by omega) (.slice da j dc) (j) (rowsOf insRow ((ps.take j).map fun p => newI ps (insAt is p))) rfl (own_below hown0.out (by go_grown)) ⟨w1.heap.size, 0, none⟩ 1 1 [.int .i64 18, .int .i64 (cn : Int), .int .i64 0, .string s] rfl rfl (World.news_of_block (cs := #[.int .i64 18, .int .i64 (cn : Int), .int .i64 0, .string s]) (t := 57) (fr := (0, 0)) (heap_alloc_new' _ _ _ (by simp))) (by intro u hu; simp at hu; (first | (subst hu; rfl) | (rcases hu with rfl | rfl | rfl | rfl <;> rfl) | (rcases hu with rfl | rfl | rfl | rfl | rfl | rfl | rfl | rfl | rfl <;> rfl))) (by omega) (by unfold maxLen; omega) (by omega) (by simp; omega) _ rfl ?_; intro g2 cap2 w6 hown hgrow hat hlt3); have k6 := kept_of hgrow (w := w1) (by go_grown); have D9 := D7.kept k6 (fun h => by have := (hbO.out _ h.symm).1; omega); have D9W := D7W.kept k6 (fun h => by have := (hbO.out _ h.symm).1; omega); have d9f_0 := D9W.frz 0 (by omega); have d9f_1 := D9W.frz 1 (by omega); obtain ⟨d9_0, d9_1⟩ := D9.box2; have hsD9 := World.block_lt_of_cell? _ _ d9_0; dsimp only at hsD9)
                obtain ⟨w7, hW7⟩ : ∃ W, W = w6.setCell ⟨dD, 0, none⟩ (.slice (some ⟨g2, 0, none⟩) (j + 1) cap2) := ⟨_, rfl⟩
                rw [← hW7]
                have hsA : (w1.alloc (.cells #[.int .i64 18, .int .i64 (cn : Int), .int .i64 0, .string s] 57)).heap.size = w1.heap.size + 1 := by simp
                have hz6 : w1.heap.size + 1 ≤ w6.heap.size := by have := hgrow.size; rw [hsA] at this; exact this
                have hz7 : w6.heap.size ≤ w7.heap.size := by rw [hW7]; simp [World.setCell]
                have k7 : Kept (· = dD) w6 w7 := by rw [hW7]; exact Kept.set (S := (· = dD)) (p := ⟨dD, 0, none⟩) (Kept.refl _ _) rfl _
                have hkE : ∀ q, q < w3'.heap.size → ¬ some q = (Value.slice da j dc).ownBlock := fun q hq h => by have := (hbO.out _ h.symm).1; omega
                have DX : RowAt w7 dD 0 [.slice (some ⟨g2, 0, none⟩) (j + 1) cap2, .slice pa2 m pc2] := by rw [hW7]; exact RowAt.putC D9 (j := 0) (by simp) _
                have DXW : Wr w7 dD 0 2 := by rw [hW7]; exact Wr.set D9W 0 _
                have CX := (C7.kept k6 (hkE _ (by omega))).kept k7 (by omega)
                have EX := (E7.kept k6 (hkE _ (by omega))).kept k7 (by omega)
                have EXW := (E7W.kept k6 (hkE _ (by omega))).kept k7 (by omega)
                have hg2 : w3'.heap.size ≤ g2 := by
                  rcases hat with h | h
                  · exact (hbO.out _ h).1
                  · rw [hsA] at h; omega
                have PX := (hP7.out.kept GPat.ok k6 (fun b hb => hkE b (by have := ltP.out b hb; omega))).kept GPat.ok k7 (fun b hb e => by have := ltP.out b hb; omega)
                have OX : OwnF 57 4 insRow GIns.wf w3'.heap.size w7 (.slice (some ⟨g2, 0, none⟩) (j + 1) cap2) ((ps.take (j + 1)).map fun p => newI ps (insAt is p)) := by
                  refine OwnF.kept (S := (· = dD)) ⟨?_, fun y hy => ?_⟩ k7 (fun x hx e => by
                    obtain rfl : g2 = x := by simpa [Value.ownBlock] using hx
                    omega)
                  · rw [List.length_map, List.length_take, show min (j + 1) ps.length = j + 1 by have := hnp.out; omega, hst.out, rowsOf_append, rowsOf_one, hzw'.out]
                    exact hown
                  · rw [hst.out, hzw'.out] at hy
                    rcases List.mem_append.1 hy with h | h
                    · exact hwo.out y h
                    · simp only [List.mem_singleton] at h; rw [h]; exact hzwf.out
                have hBX : Below w.heap.size w w7 := by
                  rw [hW7]
                  exact (below_grown2 (wr := w1) (w := w) (base := w.heap.size) hgrow (by go_grown) hw hzr (own_lo hown0.out (by omega))).setCell (p := ⟨dD, 0, none⟩) (by show w.heap.size ≤ dD; omega) _
                have hzX : w3'.heap.size ≤ w7.heap.size := by omega
                replace OX := Lib.hid OX; replace PX := Lib.hid PX
                clear hW7 hgrow hown hat hlt3 k6 k7 hkE D9 D9W D7 D7W Q7 Q7W C7 E7 E7W hO7 hP7 hny hres q7_0 q7_1 q7_2 q7_3 hsQ7 q7f_0 q7f_1 q7f_2 q7f_3 d7_0 d7_1 d7f_0 d7f_1 hsD7 d9_0 d9_1 d9f_0 d9f_1 hsD9 hown0 hwo
                go_wp2_with fail
                go_roundw
                case rel => exact ⟨j + 1, .slice (some ⟨g2, 0, none⟩) (j + 1) cap2, by omega, by go_num, hBX, hzX, CX, EX, EXW, DX, DXW, OX, PX, hbf⟩
                case measure => simp [intOf]; omega

        · obtain rfl : j = k := by omega
          have hfull : ps.take j = ps := List.take_of_length_le (by rw [← hnp.out]; exact Nat.le_refl _)
          rw [hfull] at hO hB
          rw [show min j ps.length = j by have := hnp.out; omega] at hO D4
          have hK := hgood.out (by omega) (fun k hk => hPl.out k (by rw [← hnp.out]; exact hk)) hB.out
          obtain ⟨bsI, SI, ndI, fI⟩ := hO.out.slO flatIns
          have d4f_0 := D4W.frz 0 (by omega); have d4f_1 := D4W.frz 1 (by omega); obtain ⟨d4_0, d4_1⟩ := D4.box2; have hsD4 := World.block_lt_of_cell? _ _ d4_0; dsimp only at hsD4; have e4f_0 := E4W.frz 0 (by omega); have e4f_1 := E4W.frz 1 (by omega); obtain ⟨e4_0, e4_1⟩ := E4.box2; have hsE4 := World.block_lt_of_cell? _ _ e4_0; dsimp only at hsE4
          obtain ⟨w9, hw9, g_0, g_1, k9, b9⟩ := set2_box (lo := w.heap.size) (.slice da j dc) (.slice pa2 m pc2) e4_0 e4_1 (by omega)
          have SI9 := SI.kept GIns.ok k9 (fun b hb e => by have := fI b hb; omega)
          have SP9 := hSP.out.kept GPat.ok k9 (fun b hb e => by have := fP.out b hb; have := hsE0; omega)
          have hB9 := hw.trans b9
          replace SI9 := Lib.hid SI9; replace SP9 := Lib.hid SP9; replace hK := Lib.hid hK; replace ndI := Lib.hid ndI; replace fI := Lib.hid fI
          clear hO SI hSP k9 b9 hB
          go_wp2_with fail
          rw [← hw9]
          refine bodyPost_ret (ret_code_tmp (a := 4) (b := 5) Tryz.results35 rfl rfl g_0 g_1) rfl ?_
          rw [hK.out]
          exact ⟨[.slice da j dc, .slice pa2 m pc2], bsI ++ p1, rfl, ⟨_, bsI, _, p1, rfl, rfl, trivial, SI9.out, SP9.out⟩, List.nodup_append.2 ⟨ndI.out, ndP.out, fun a ha b hb e => by have := fI.out a ha; have := ltP.out b hb; omega⟩, fun b hb => by
            rcases List.mem_append.1 hb with h | h
            · have := fI.out b h; omega
            · have := fP.out b h; omega, hB9⟩

end Go.Proofs.YtfobkbjabenkkaaGreat
