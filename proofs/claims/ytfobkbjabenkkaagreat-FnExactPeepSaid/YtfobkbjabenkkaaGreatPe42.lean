/- Parts of the proof, merged: Idle4, Strip2. -/
import Derived.Test.YtfobkbjabenkkaaGreatPe41
/- Idle: how big the result is. -/
namespace Go.Proofs.YtfobkbjabenkkaaGreat
open Go.RowKit
theorem keptP_sub {c : GCode} {ps : List Int} (h : ps.length ≤ c.ins.length) : CodeSub c (keptP c ps) := by
  unfold keptP keepP
  split
  · exact ⟨by simpa using h, .inl rfl⟩
  · exact ⟨Nat.le_refl _, .inl rfl⟩
theorem idleP_sub (c : GCode) : CodeSub c (idleP c) := by
  unfold idleP
  split
  · exact keptP_sub (idlePl_len _ _)
  · exact ⟨by simp, .inr rfl⟩
end Go.Proofs.YtfobkbjabenkkaaGreat

/- Strip: the reference's. -/
namespace Go.Proofs.YtfobkbjabenkkaaGreat
open Go.RowKit
set_option linter.unusedVariables false
set_option linter.unusedSimpArgs false
attribute [local go_sem] Ext.cell

theorem stripP_sub (c : GCode) : CodeSub c (stripP c) := by
  unfold stripP
  split
  · exact keptP_sub (reachedP_len c)
  · exact ⟨by simp, .inr rfl⟩

theorem RowAt.two {w : World} {b : Nat} {u v : Value} (h : w.cell? ⟨b, 0, none⟩ = some u) (h' : w.cell? ⟨b, 1, none⟩ = some v) : RowAt w b 0 [u, v] := fun j c hc => by
  rcases j with _ | _ | j
  · obtain rfl : u = c := by simpa using hc
    exact h
  · obtain rfl : v = c := by simpa using hc
    exact h'
  · simp at hc

set_option maxRecDepth 100000 in
set_option maxHeartbeats 16000000 in
theorem specStrip_o (c : GCode) (hS : CodeCopy c) (r : List Value) (lo : Nat) (w : World) (hr : GCode.R lo w r c) :
    Calls Tryz.prog 16 #[.agg r.toArray] w (CopyPost (stripP c) w) := by
  have cK := fun W (hW : Below w.heap.size w W) => specCodeOk_c c hS.small r lo W (GCode.good.below hr hW)
  have cR := fun W (hW : Below w.heap.size w W) => specReached_c c hS r lo W (GCode.good.below hr hW)
  have cF := fun (u : Value) W (hl : (reachedP c).length ≤ 1048576) (hW : Below w.heap.size w W) (hu : Sl IntR 1 0 W u (reachedP c)) => specKeep_o c hS _ hl r u 0 W (GCode.good.mono (GCode.good.below hr hW) (Nat.zero_le _)) hu
  have cC := fun W (hW : Below w.heap.size w W) => l19Copy_o c hS r lo W (GCode.good.below hr hW)
  obtain ⟨u0, u1, rfl, _, h0, h1⟩ := hr
  obtain ⟨ia, ic, rfl⟩ := h0.form
  obtain ⟨pa, pc, rfl⟩ := h1.form
  clear h0 h1
  have hlen := reachedP_len c
  unfold stripP
  cases hq : codeOk c
  · rw [hq] at cK
    rw [if_neg (by decide)]
    clear hq cF cR hS hlen cC
    replace cK := Lib.hid cK
    generalize c.ins.length = n at *
    generalize c.pats.length = m at *
    go_enter Tryz.func16, Tryz.ntmps16
    go_upto_region 1 with fail
    have C : RowAt (w.alloc (.cells #[.slice ia n ic, .slice pa m pc] 30)) (w.heap.size) 0 [.slice ia n ic, .slice pa m pc] := RowAt.box w #[.slice ia n ic, .slice pa m pc] 30
    have C := C.below (show Below (w.alloc (.cells #[.slice ia n ic, .slice pa m pc] 30)).heap.size (w.alloc (.cells #[.slice ia n ic, .slice pa m pc] 30)) ((w.alloc (.cells #[.slice ia n ic, .slice pa m pc] 30)).alloc (.cells #[.slice none 0 0, .slice none 0 0] 30)) by go_grown)
    have E : RowAt ((w.alloc (.cells #[.slice ia n ic, .slice pa m pc] 30)).alloc (.cells #[.slice none 0 0, .slice none 0 0] 30)) (w.heap.size + 1) 0 [.slice none 0 0, .slice none 0 0] := by have h := RowAt.box (w.alloc (.cells #[.slice ia n ic, .slice pa m pc] 30)) #[.slice none 0 0, .slice none 0 0] 30; simp only [World.size_alloc] at h; exact h
    have EW : Wr ((w.alloc (.cells #[.slice ia n ic, .slice pa m pc] 30)).alloc (.cells #[.slice none 0 0, .slice none 0 0] 30)) (w.heap.size + 1) 0 2 := by have h := Wr.box (w.alloc (.cells #[.slice ia n ic, .slice pa m pc] 30)) #[.slice none 0 0, .slice none 0 0] 30; simp only [World.size_alloc] at h; exact h
    have hw : Below w.heap.size w ((w.alloc (.cells #[.slice ia n ic, .slice pa m pc] 30)).alloc (.cells #[.slice none 0 0, .slice none 0 0] 30)) := by go_grown
    generalize ((w.alloc (.cells #[.slice ia n ic, .slice pa m pc] 30)).alloc (.cells #[.slice none 0 0, .slice none 0 0] 30)) = w0 at *
    obtain ⟨c_0, c_1⟩ := C.box2; have hsC := World.block_lt_of_cell? _ _ c_0; dsimp only at hsC; have ef_0 := EW.frz 0 (by omega); have ef_1 := EW.frz 1 (by omega); obtain ⟨e_0, e_1⟩ := E.box2; have hsE := World.block_lt_of_cell? _ _ e_0; dsimp only at hsE
    go_wp2_with (go_at_call 13; ((with_reducible refine (cK.out _ hw).mono ?_); rintro e w1 ⟨rfl, hb⟩; have hw := hw.trans (hb.mono hw.size); have C := C.below hb; obtain ⟨c_0, c_1⟩ := C.box2; have hsC := World.block_lt_of_cell? _ _ c_0; dsimp only at hsC; have EW := EW.below hb; have ef_0 := EW.frz 0 (by omega); have ef_1 := EW.frz 1 (by omega); have E := E.below hb; obtain ⟨e_0, e_1⟩ := E.box2; have hsE := World.block_lt_of_cell? _ _ e_0; dsimp only at hsE; clear hb))
    obtain ⟨w9, hw9, g_0, g_1, k9, b9⟩ := set2_box (lo := w.heap.size) (.slice none 0 0) (.slice none 0 0) e_0 e_1 (by omega)
    rw [← hw9]
    refine bodyPost_ret (ret_code (a := 2) Tryz.results16 rfl g_0 g_1) rfl ?_
    exact CopyPost.zero (hw.trans b9)
  · rw [hq] at cK
    rw [if_pos rfl]
    obtain ⟨n1, n2, _, _⟩ := codeOk_all hq
    clear hq hS
    replace cF := fun u W => cF u W (by omega)
    unfold keptP
    generalize keepP c (reachedP c) = R at *
    generalize reachedP c = ps at *
    obtain ⟨n, hn⟩ : ∃ n, n = c.ins.length := ⟨_, rfl⟩
    obtain ⟨m, hm⟩ : ∃ m, m = c.pats.length := ⟨_, rfl⟩
    rw [← hn, ← hm] at cK cR cF cC ⊢
    replace hn := Lib.hid hn; replace hm := Lib.hid hm
    clear n1 n2 hlen
    replace cK := Lib.hid cK; replace cR := Lib.hid cR; replace cC := Lib.hid cC
    go_enter Tryz.func16, Tryz.ntmps16
    go_upto_region 1 with fail
    have C : RowAt (w.alloc (.cells #[.slice ia n ic, .slice pa m pc] 30)) (w.heap.size) 0 [.slice ia n ic, .slice pa m pc] := RowAt.box w #[.slice ia n ic, .slice pa m pc] 30
    have C := C.below (show Below (w.alloc (.cells #[.slice ia n ic, .slice pa m pc] 30)).heap.size (w.alloc (.cells #[.slice ia n ic, .slice pa m pc] 30)) ((w.alloc (.cells #[.slice ia n ic, .slice pa m pc] 30)).alloc (.cells #[.slice none 0 0, .slice none 0 0] 30)) by go_grown)
    have E : RowAt ((w.alloc (.cells #[.slice ia n ic, .slice pa m pc] 30)).alloc (.cells #[.slice none 0 0, .slice none 0 0] 30)) (w.heap.size + 1) 0 [.slice none 0 0, .slice none 0 0] := by have h := RowAt.box (w.alloc (.cells #[.slice ia n ic, .slice pa m pc] 30)) #[.slice none 0 0, .slice none 0 0] 30; simp only [World.size_alloc] at h; exact h
    have EW : Wr ((w.alloc (.cells #[.slice ia n ic, .slice pa m pc] 30)).alloc (.cells #[.slice none 0 0, .slice none 0 0] 30)) (w.heap.size + 1) 0 2 := by have h := Wr.box (w.alloc (.cells #[.slice ia n ic, .slice pa m pc] 30)) #[.slice none 0 0, .slice none 0 0] 30; simp only [World.size_alloc] at h; exact h
    have hw : Below w.heap.size w ((w.alloc (.cells #[.slice ia n ic, .slice pa m pc] 30)).alloc (.cells #[.slice none 0 0, .slice none 0 0] 30)) := by go_grown
    generalize ((w.alloc (.cells #[.slice ia n ic, .slice pa m pc] 30)).alloc (.cells #[.slice none 0 0, .slice none 0 0] 30)) = w0 at *
    obtain ⟨c_0, c_1⟩ := C.box2; have hsC := World.block_lt_of_cell? _ _ c_0; dsimp only at hsC; have ef_0 := EW.frz 0 (by omega); have ef_1 := EW.frz 1 (by omega); obtain ⟨e_0, e_1⟩ := E.box2; have hsE := World.block_lt_of_cell? _ _ e_0; dsimp only at hsE
    go_upto_region 3 with (go_at_call 13; ((with_reducible refine (cK.out _ hw).mono ?_); rintro e w1 ⟨rfl, hb⟩; have hw := hw.trans (hb.mono hw.size); have C := C.below hb; obtain ⟨c_0, c_1⟩ := C.box2; have hsC := World.block_lt_of_cell? _ _ c_0; dsimp only at hsC; have EW := EW.below hb; have ef_0 := EW.frz 0 (by omega); have ef_1 := EW.frz 1 (by omega); have E := E.below hb; obtain ⟨e_0, e_1⟩ := E.box2; have hsE := World.block_lt_of_cell? _ _ e_0; dsimp only at hsE; clear hb))
    have hsE0 := hsE
    obtain ⟨D, hD⟩ : ∃ D, D = R.getD ⟨[], []⟩ := ⟨_, rfl⟩
    unfold KeepPost at cF
    rw [← hD] at cF
    have hbl0 := hw.size
    replace hD := Lib.hid hD; replace cF := Lib.hid cF
    go_cut [3, 4] (fun p ok wx => ∃ (d : Nat) (ya : Option Addr) (yc : Nat) (yb : Option Addr) (yd : Nat) (bs : List Nat), p = .pointer (some ⟨d, 0, none⟩) ∧ ok = .bool R.isSome ∧ Below w.heap.size w wx ∧ RowAt wx w.heap.size 0 [.slice ia n ic, .slice pa m pc] ∧ RowAt wx (w.heap.size + 1) 0 [.slice none 0 0, .slice none 0 0] ∧ Wr wx (w.heap.size + 1) 0 2 ∧ RowAt wx d 0 [.slice ya D.ins.length yc, .slice yb D.pats.length yd] ∧ Hid (GCode.O bs wx [.slice ya D.ins.length yc, .slice yb D.pats.length yd] D) ∧ Hid bs.Nodup ∧ Hid (∀ b ∈ bs, w.heap.size ≤ b ∧ b ≠ w.heap.size + 1))
    case first =>
      generalize R.isSome = ok at *
      go_region_law (first
        | (go_simp; go_at_call 36; (with_reducible refine (cR.out _ (hw.trans (by go_grown))).mono ?_); rintro e w4 ⟨rv, rfl, hRv, hb⟩; have hb4 : Below w1.heap.size w1 w4 := Below.trans (by go_grown) (hb.mono (by go_grown)); have hs4 : w1.heap.size ≤ w4.heap.size := hb4.size; have C4 := C.below hb4; have E4 := E.below hb4; have E4W := EW.below hb4; have hw4 := hw.trans (hb4.mono hw.size); have hSl := hRv.mono IntR.good (Nat.zero_le _); (try (have D4 : RowAt w4 w1.heap.size 0 [.slice none 0 0, .slice none 0 0] := (RowAt.box w1.drew #[.slice none 0 0, .slice none 0 0] _).below hb; have D4W : Wr w4 w1.heap.size 0 2 := (Wr.box w1.drew #[.slice none 0 0, .slice none 0 0] _).below hb; have d4f_0 := D4W.frz 0 (by omega); have d4f_1 := D4W.frz 1 (by omega); obtain ⟨d4_0, d4_1⟩ := D4.box2; have hsD4 := World.block_lt_of_cell? _ _ d4_0; dsimp only at hsD4)); clear hb; obtain ⟨c4_0, c4_1⟩ := C4.box2; have hsC4 := World.block_lt_of_cell? _ _ c4_0; dsimp only at hsC4; have e4f_0 := E4W.frz 0 (by omega); have e4f_1 := E4W.frz 1 (by omega); obtain ⟨e4_0, e4_1⟩ := E4.box2; have hsE4 := World.block_lt_of_cell? _ _ e4_0; dsimp only at hsE4)
        | (go_simp; go_at_call 35; (with_reducible refine (cF.out _ _ (hw4.trans (by go_grown)) (hSl.below IntR.good (by go_grown))).mono ?_); rintro e w5 ⟨r', bs, rfl, O5, nd5, f5, hb⟩; obtain ⟨y0, q0, y1, q1, rfl, hbs, hwf3, t0, t1⟩ := O5; obtain ⟨ya, yc, rfl⟩ := t0.form; obtain ⟨yb, yd, rfl⟩ := t1.form; have hb5 : Below w4.heap.size w4 w5 := Below.trans (by go_grown) (hb.mono (by go_grown)); have hs5 : w4.heap.size ≤ w5.heap.size := hb5.size; have C5 := C4.below hb5; have E5 := E4.below hb5; have E5W := E4W.below hb5; have hw5 := hw4.trans (hb5.mono hw4.size); have hz45 := hw4.size; (first | (have D5 := D4.below hb5; have D5W := D4W.below hb5; have d5f_0 := D5W.frz 0 (by omega); have d5f_1 := D5W.frz 1 (by omega); obtain ⟨d5_0, d5_1⟩ := D5.box2; have hsD5 := World.block_lt_of_cell? _ _ d5_0; dsimp only at hsD5) | (have D5 : RowAt w5 w4.heap.size 0 [.slice none 0 0, .slice none 0 0] := (RowAt.box w4 #[.slice none 0 0, .slice none 0 0] _).below hb; have D5W : Wr w5 w4.heap.size 0 2 := (Wr.box w4 #[.slice none 0 0, .slice none 0 0] _).below hb; have d5f_0 := D5W.frz 0 (by omega); have d5f_1 := D5W.frz 1 (by omega); obtain ⟨d5_0, d5_1⟩ := D5.box2; have hsD5 := World.block_lt_of_cell? _ _ d5_0; dsimp only at hsD5) | skip); clear hb; obtain ⟨c5_0, c5_1⟩ := C5.box2; have hsC5 := World.block_lt_of_cell? _ _ c5_0; dsimp only at hsC5; have e5f_0 := E5W.frz 0 (by omega); have e5f_1 := E5W.frz 1 (by omega); obtain ⟨e5_0, e5_1⟩ := E5.box2; have hsE5 := World.block_lt_of_cell? _ _ e5_0; dsimp only at hsE5))
      all_goals
        replace nd5 := Lib.hid nd5; replace f5 := Lib.hid f5; replace t0 := Lib.hid t0; replace t1 := Lib.hid t1; replace hwf3 := Lib.hid hwf3; replace hbs := Lib.hid hbs
        go_wp2_with fail
        go_meet
        have O5 : GCode.O bs w5 [.slice ya D.ins.length yc, .slice yb D.pats.length yd] D := ⟨_, q0, _, q1, rfl, hbs.out, hwf3.out, t0.out, t1.out⟩
        have f6 : ∀ b ∈ bs, w4.heap.size ≤ b := fun b hb => by have := f5.out b hb; (try simp only [World.size_alloc] at this); omega
        have hff : ∀ b ∈ bs, w.heap.size ≤ b ∧ b ≠ w.heap.size + 1 := fun b hb => by have := f6 b hb; omega
        first
          | (have hb6 : Below w5.heap.size w5 (w5.alloc (.cells #[.slice ya D.ins.length yc, .slice yb D.pats.length yd] 30)) := by go_grown
             exact ⟨w5.heap.size, ya, yc, yb, yd, bs, rfl, rfl, hw5.trans (hb6.mono hw5.size), C5.below hb6, E5.below hb6, E5W.below hb6, RowAt.box w5 #[_, _] _, GCode.ok.below O5 hb6, nd5, hff⟩)
          | (obtain ⟨w6, hW6, g6_0, g6_1, k6, b6⟩ := set2_box (lo := w.heap.size) (.slice ya D.ins.length yc) (.slice yb D.pats.length yd) d5_0 d5_1 (by omega)
             rw [← hW6]
             exact ⟨_, ya, yc, yb, yd, bs, rfl, rfl, hw5.trans b6, C5.kept k6 (by omega), E5.kept k6 (by omega), E5W.kept k6 (by omega), RowAt.two g6_0 g6_1, GCode.ok.kept O5 k6 (fun b hb e => by have := f5.out b hb; (try simp only [World.size_alloc] at this); omega), nd5, hff⟩)
    case rest =>
      obtain ⟨d, ya, yc, yb, yd, bs, rfl, rfl, hw5, C5, E5, E5W, D5, O5, nd5, f5⟩ := hcut
      obtain ⟨w5, rfl⟩ : ∃ W, W = wc := ⟨_, rfl⟩
      clear hw C E EW c_0 c_1 e_0 e_1 ef_0 ef_1 hsC hsE cF cR cK
      have hw := hw5
      clear hw5
      cases R with
      | none =>
        obtain rfl : D = ⟨[], []⟩ := hD.out
        clear O5 nd5 f5
        obtain ⟨c5_0, c5_1⟩ := C5.box2; have hsC5 := World.block_lt_of_cell? _ _ c5_0; dsimp only at hsC5; have e5f_0 := E5W.frz 0 (by omega); have e5f_1 := E5W.frz 1 (by omega); obtain ⟨e5_0, e5_1⟩ := E5.box2; have hsE5 := World.block_lt_of_cell? _ _ e5_0; dsimp only at hsE5
        have hsE8 := hsE5
        go_wp2_with (go_at_call 14; (with_reducible refine (cC.out _ hw).mono ?_); rintro e w7 ⟨r', bs6, rfl, O7, nd7, f7, hb⟩; obtain ⟨y0, q0, y1, q1, rfl, hbs6, hwf6, t0, t1⟩ := O7; obtain ⟨za, zc, rfl⟩ := t0.form; obtain ⟨zb, zd, rfl⟩ := t1.form; have O7 := (⟨_, q0, _, q1, rfl, hbs6, hwf6, t0, t1⟩ : GCode.O bs6 w7 [.slice za c.ins.length zc, .slice zb c.pats.length zd] c); clear t0 t1; replace O7 := Lib.hid O7; replace nd7 := Lib.hid nd7; replace f7 := Lib.hid f7; have hz7 := hw.size; have hw := hw.trans (hb.mono hw.size); have C5 := C5.below hb; obtain ⟨c5_0, c5_1⟩ := C5.box2; have hsC5 := World.block_lt_of_cell? _ _ c5_0; dsimp only at hsC5; have E5W := E5W.below hb; have e5f_0 := E5W.frz 0 (by omega); have e5f_1 := E5W.frz 1 (by omega); have E5 := E5.below hb; obtain ⟨e5_0, e5_1⟩ := E5.box2; have hsE5 := World.block_lt_of_cell? _ _ e5_0; dsimp only at hsE5; clear hb)
        obtain ⟨w9, hw9, g_0, g_1, k9, b9⟩ := set2_box (lo := w.heap.size) (.slice za c.ins.length zc) (.slice zb c.pats.length zd) e5_0 e5_1 (by omega)
        rw [← hw9]
        refine bodyPost_ret (ret_code (a := 2) Tryz.results16 rfl g_0 g_1) rfl ?_
        exact CopyPost.stored O7.out nd7.out (fun b hb => by have := f7.out b hb; omega) k9 (hw.trans b9)
      | some R =>
        obtain rfl : D = R := hD.out
        obtain ⟨d5_0, d5_1⟩ := D5.box2; have hsD5 := World.block_lt_of_cell? _ _ d5_0; dsimp only at hsD5; have e5f_0 := E5W.frz 0 (by omega); have e5f_1 := E5W.frz 1 (by omega); obtain ⟨e5_0, e5_1⟩ := E5.box2; have hsE5 := World.block_lt_of_cell? _ _ e5_0; dsimp only at hsE5
        go_wp2_with fail
        obtain ⟨w9, hw9, g_0, g_1, k9, b9⟩ := set2_box (lo := w.heap.size) (.slice ya D.ins.length yc) (.slice yb D.pats.length yd) e5_0 e5_1 (by omega)
        rw [← hw9]
        refine bodyPost_ret (ret_code (a := 2) Tryz.results16 rfl g_0 g_1) rfl ?_
        exact CopyPost.stored O5.out nd5.out (fun b hb => f5.out b hb) k9 (hw.trans b9)

end Go.Proofs.YtfobkbjabenkkaaGreat
