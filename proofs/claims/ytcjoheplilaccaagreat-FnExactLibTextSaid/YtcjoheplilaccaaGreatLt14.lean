/- Parts of the proof, merged: Pr6. -/
import Derived.Test.YtcjoheplilaccaaGreatLt13
/- The program's parser: lists, comparisons. -/
namespace Go.Proofs.YtcjoheplilaccaaGreat
open Go.RowKit
set_option linter.unusedVariables false
set_option linter.unusedSimpArgs false
attribute [local go_sem] Ext.cell

theorem eat_is {L : List GTok} {E i : Nat} {s : ByteArray} (h : eqS (sgn (tokAt L E i)) s = true) : eatP L E i s = some (i + 1) := by unfold eatP; rw [h]; rfl
theorem fin_drew {C : PC} {b i q : Nat} {w W : World} {nv nv' : Value} {ns : List ByteArray} {t : ExT} (h : PS C b W i nv' ns ∧ PF b w nv W nv' ∧ TR w.heap.size nv' W (.pointer (some ⟨q, 0, none⟩)) t) : PS C b W.drew i nv' ns ∧ PF b w nv W.drew nv' ∧ TR w.heap.size nv' W.drew (.pointer (some ⟨q, 0, none⟩)) t := by
  have hb : Below W.heap.size W W.drew := (Below.refl _ W).drew
  exact ⟨h.1.below hb, h.2.1.near hb (Nat.le_of_lt h.1.lt), h.2.2.below hb⟩

set_option maxRecDepth 100000 in
set_option maxHeartbeats 16000000 in
theorem listed_g {C : PC} {b : Nat} {R : PFs} (G : Good C b R) : EC C b 102 (listedB C.L C.E R) := by
  intro deep i ns o w nv h P
  unfold listedB at h
  obtain ⟨oa, hoa, h⟩ := Option.bind_eq_some_iff.1 h
  have cX : Calls Tryz.prog 119 #[.pointer (some ⟨b, 0, none⟩), .int .i64 (deep : Int), .int .i64 0] w (EPost C b w nv oa) := G.chain 0 deep i ns oa w nv hoa (by omega) P
  have hbl := P.lt
  have hlen := P.ok.len
  generalize hQ : EPost C b w nv o = Q
  have hpost := epost_out hQ
  clear hQ
  obtain ⟨ta, ia, nsa⟩ := oa
  dsimp only at h
  obtain ⟨a1, ha1⟩ : ∃ q, eqS (sgn (tokAt C.L C.E ia)) qCons = q := ⟨_, rfl⟩
  have c1 : ((sgn (tokAt C.L C.E ia)).toList != [58, 58]) = !a1 := (neS_lit qCons rfl).trans (by rw [ha1])
  have c1e : ((sgn (tokAt C.L C.E ia)).toList == [58, 58]) = a1 := (eqS_lit qCons rfl).trans ha1
  have hsf := fun (W : World) nv' (hP : PS C b W ia nv' nsa) => sign_c hP
  have hef : a1 = true → eatP C.L C.E ia qCons = some (ia + 1) := fun h => eat_is (ha1.trans h)
  have hwa := fun (W : World) (hP : C.Ok b W) => (tokAt_wf hP ia).2.2.2
  rw [ha1] at h
  generalize sgn (tokAt C.L C.E ia) = sg at *
  replace cX := Lib.hid cX; replace hsf := Lib.hid hsf; replace ha1 := Lib.hid ha1; replace hoa := Lib.hid hoa; replace hwa := Lib.hid hwa
  cases a1
  · replace c1 : (sg.toList != [58, 58]) = true := c1
    rw [if_neg (by simp)] at h
    obtain rfl := Option.some.inj h
    replace hpost := Lib.hid hpost
    clear h hef
    go_enter Tryz.func102, Tryz.ntmps102
    go_wp2_with (first
      | (go_at_call 119; (with_reducible refine (cX.out).mono ?_); rintro e w1 ⟨q1, nv1, rfl, P1, F1, T1⟩; dsimp only at P1 T1)
      | (go_at_call 46; (with_reducible refine (hsf.out _ _ P1).mono ?_); rintro e w2 ⟨rfl, hb2⟩))
    have hbl1 := P1.lt
    exact hpost.out q1 nv1 _ ⟨P1.below hb2, F1.near hb2 (by omega), T1.below hb2⟩
  · replace c1 : (sg.toList != [58, 58]) = false := c1
    rw [if_pos rfl] at h
    obtain ⟨ob, hob, h⟩ := Option.bind_eq_some_iff.1 h
    obtain rfl := Option.some.inj h
    obtain ⟨tb, ib, nsb⟩ := ob
    dsimp only at hpost
    have hej := hef rfl
    have cEt := fun (W : World) nv' (hP : PS C b W ia nv' nsa) => eat_c hP ⟨#[58, 58]⟩ (by decide) hej
    replace hpost := Lib.hid hpost; replace hob := Lib.hid hob; replace cEt := Lib.hid cEt
    clear h hef
    go_enter Tryz.func102, Tryz.ntmps102
    go_upto_region 5 with (first
      | (go_at_call 119; (with_reducible refine (cX.out).mono ?_); rintro e w1 ⟨q1, nv1, rfl, P1, F1, T1⟩; dsimp only at P1 T1)
      | (go_at_call 46; (with_reducible refine (hsf.out _ _ P1).mono ?_); rintro e w2 ⟨rfl, hb2⟩)
      | (go_at_call 48; (with_reducible refine (cEt.out _ _ (P1.below hb2)).mono ?_); rintro e w3 ⟨rfl, P3, F3⟩))
    have hbl1 := P1.lt
    have hz2 := hb2.size
    have FF3 := (F1.near hb2 (by omega)).trans F3
    have T3 := (T1.below hb2).step F3 (by omega)
    have hat := hwa.out w3 P3.ok
    generalize (tokAt C.L C.E ia).at_ = at1 at *
    have cY := G.listed deep (ia + 1) nsa _ w3 nv1 hob.out P3
    replace cY := Lib.hid cY
    clear cX hsf P1 F1 T1 F3 hwa cEt
    go_upto_region 6 with (go_at_call 102; (with_reducible refine (cY.out).mono ?_); rintro e w4 ⟨q4, nv4, rfl, P4, F4, T4⟩; dsimp only at P4 T4)
    have FF4 := FF3.trans F4
    have T3' := T3.step F4 (by omega)
    have T4' := T4.lower FF3.size
    obtain ⟨P5, F5, T5⟩ := fin_node P4 FF4 (kd := 11) (at_ := at1) (nn := 0) (s := bs []) (n := 2) (exw (by omega) hat z64 bs_ok) rfl rfl (by omega) (hk2 T3' T4') rfl
    clear T3 T4 T3' T4' P4 FF4 F4 cY P3
    obtain ⟨W5, hW5⟩ : ∃ W, W = (w4.alloc (.cells [.pointer (some ⟨q1, 0, none⟩), .pointer (some ⟨q4, 0, none⟩)].toArray 60)).alloc (.cells #[.int .i64 11, .int .i64 at1, .int .i64 0, .string (bs []), .slice (some ⟨w4.heap.size, 0, none⟩) 2 2, .slice none 0 0] 95) := ⟨_, rfl⟩
    rw [← hW5] at P5 F5 T5
    have hW5' : W5 = (w4.alloc (.cells #[.pointer (some ⟨q1, 0, none⟩), .pointer (some ⟨q4, 0, none⟩)] 60)).alloc (.cells #[.int .i64 11, .int .i64 at1, .int .i64 0, .string ⟨#[]⟩, .slice (some ⟨w4.heap.size, 0, none⟩) 2 2, .slice none 0 0] 95) := hW5
    rw [← hW5']
    obtain ⟨q5, hq5⟩ : ∃ q, q = w4.heap.size + 1 := ⟨_, rfl⟩
    rw [← hq5] at T5 ⊢
    clear hW5 hW5' hq5
    have hf := fin_node P5 F5 (kd := 4) (at_ := at1) (nn := 0) (s := qCons) (n := 1) (exw (by omega) hat z64 (by unfold StrOk; decide)) rfl rfl (by omega) (hk1 T5) rfl
    replace hf := Lib.hid hf
    clear P5 F5 T5
    go_wp2_with fail
    exact hpost.out _ nv4 _ hf.out

set_option maxRecDepth 100000 in
set_option maxHeartbeats 16000000 in
theorem compared_g {C : PC} {b : Nat} {R : PFs} (G : Good C b R) : EC C b 83 (comparedB C.L C.E R) := by
  intro deep i ns o w nv h P
  unfold comparedB at h
  obtain ⟨oa, hoa, h⟩ := Option.bind_eq_some_iff.1 h
  have cX := G.listed deep i ns oa w nv hoa P
  have hbl := P.lt
  have hlen := P.ok.len
  generalize hQ : EPost C b w nv o = Q
  have hpost := epost_out hQ
  clear hQ
  obtain ⟨ta, ia, nsa⟩ := oa
  dsimp only at h
  obtain ⟨a1, ha1⟩ : ∃ q, anyS cmpSigns (sgn (tokAt C.L C.E ia)) = q := ⟨_, rfl⟩
  have hte := fun (W : World) nv' (hP : PS C b W ia nv' nsa) => tok_c hP
  have cS := fun W => SignOf_c (tokAt C.L C.E ia) W
  have cH := fun g W h => has_c cmpSigns signs_ok.2.2.2.1 (sgn (tokAt C.L C.E ia)) g W h 4 rfl (by omega)
  have hia : a1 = true → ia < C.L.length := fun h => by
    refine tokAt_kind (E := C.E) fun h0 => ?_
    rw [h] at ha1
    unfold sgn at ha1
    rw [h0, if_neg (by decide)] at ha1
    exact absurd ha1 (by decide)
  have hwa := fun (W : World) (hP : C.Ok b W) => tokAt_wf hP ia
  rw [ha1] at h cH
  generalize sgn (tokAt C.L C.E ia) = sg at *
  generalize tokAt C.L C.E ia = t at *
  obtain ⟨kd, nn, s0, a⟩ := t
  replace hte : ∀ (W : World) nv', PS C b W ia nv' nsa → Calls Tryz.prog 51 #[.pointer (some ⟨b, 0, none⟩)] W fun e w' => e = .returned (.agg #[.int .i64 kd, .int .i64 nn, .string s0, .int .i64 a]) ∧ Below W.heap.size W w' := hte
  replace cS : ∀ W, Calls Tryz.prog 53 #[.agg #[.int .i64 kd, .int .i64 nn, .string s0, .int .i64 a]] W fun e w' => e = .returned (.string sg) ∧ Below W.heap.size W w' := cS
  dsimp only at h
  replace cX := Lib.hid cX; replace hte := Lib.hid hte; replace cS := Lib.hid cS; replace cH := Lib.hid cH; replace ha1 := Lib.hid ha1; replace hoa := Lib.hid hoa; replace hwa := Lib.hid hwa
  go_enter Tryz.func83, Tryz.ntmps83
  go_upto_region 3 with (first
    | (go_at_call 102; (with_reducible refine (cX.out).mono ?_); rintro e w1 ⟨q1, nv1, rfl, P1, F1, T1⟩; dsimp only at P1 T1)
    | (go_at_call 51; (with_reducible refine (hte.out _ _ P1).mono ?_); rintro e w2 ⟨rfl, hb2⟩))
  have hbl1 := P1.lt
  have hwf := hwa.out w1 P1.ok
  obtain ⟨w3, hW3⟩ : ∃ W, W = w2.alloc (.cells #[.int .i64 kd, .int .i64 nn, .string s0, .int .i64 a] 75) := ⟨_, rfl⟩
  rw [← hW3]
  have hb3 : Below w2.heap.size w2 w3 := by rw [hW3]; go_grown
  have E3 : RowAt w3 w2.heap.size 0 [.int .i64 kd, .int .i64 nn, .string s0, .int .i64 a] := by rw [hW3]; exact RowAt.box w2 #[_, _, _, _] _
  have hz2 := hb2.size
  have hz3 : w2.heap.size < w3.heap.size := by rw [hW3]; simp
  have h13 := hb2.trans (hb3.mono hz2)
  obtain ⟨tb, htb⟩ : ∃ x, x = w2.heap.size := ⟨_, rfl⟩
  rw [← htb] at E3 hz3 ⊢
  have hnt : nv1.ownBlock ≠ some tb := P1.fresh (by omega)
  have htl : w1.heap.size ≤ tb := by omega
  clear hW3 hb3 hb2 hwa htb
  obtain ⟨e3_0, e3_1, e3_2, e3_3⟩ := E3.box4; have hsE3 := World.block_lt_of_cell? _ _ e3_0; dsimp only at hsE3
  obtain ⟨hwf1, hwf2, hwf3, hwf4⟩ := hwf
  dsimp only at hwf1 hwf2 hwf3 hwf4
  cases a1
  · rw [if_neg (by simp)] at h
    obtain rfl := Option.some.inj h
    replace hpost := Lib.hid hpost
    clear h hia
    go_wp2_with (first
      | (go_at_call 53; (with_reducible refine (cS.out _).mono ?_); rintro e w5 ⟨rfl, hb5⟩; have K5 : RowAt w5 w3.heap.size 0 (cmpSigns.map Value.string) := (RowAt.box w3 #[.string ⟨#[61]⟩, .string ⟨#[60, 62]⟩, .string ⟨#[60]⟩, .string ⟨#[60, 61]⟩] 9).below hb5; have h15 : Below w1.heap.size w1 w5 := (h13.trans (show Below w1.heap.size w3 _ from Below.mono (by go_grown) h13.size)).trans (hb5.mono (by have := h13.size; simp; omega)))
      | (go_at_call 18; (with_reducible refine (cH.out _ _ K5).mono ?_); rintro e w6 ⟨rfl, hb6⟩))
    have h16 := h15.trans (hb6.mono h15.size)
    exact hpost.out q1 nv1 _ ⟨P1.below h16, F1.near h16 (by omega), T1.below h16⟩
  · rw [if_pos rfl] at h
    obtain ⟨ob, hob, h⟩ := Option.bind_eq_some_iff.1 h
    obtain rfl := Option.some.inj h
    obtain ⟨tb2, ib, nsb⟩ := ob
    dsimp only at hpost
    have hil := hia rfl
    replace hpost := Lib.hid hpost; replace hob := Lib.hid hob
    clear h hia
    go_upto_region 5 with (first
      | (go_at_call 53; (with_reducible refine (cS.out _).mono ?_); rintro e w5 ⟨rfl, hb5⟩; have K5 : RowAt w5 w3.heap.size 0 (cmpSigns.map Value.string) := (RowAt.box w3 #[.string ⟨#[61]⟩, .string ⟨#[60, 62]⟩, .string ⟨#[60]⟩, .string ⟨#[60, 61]⟩] 9).below hb5; have h35 : Below w3.heap.size w3 w5 := (show Below w3.heap.size w3 _ by go_grown).trans (hb5.mono (by simp)))
      | (go_at_call 18; (with_reducible refine (cH.out _ _ K5).mono ?_); rintro e w6 ⟨rfl, hb6⟩))
    have h36 := h35.trans (hb6.mono h35.size)
    have h16 := h13.trans (h36.mono h13.size)
    have P6 := P1.below h16
    have F6 := F1.near h16 (by omega)
    have T6 := T1.below h16
    have E6 := E3.below h36
    have hz6 := h36.size
    clear e3_0 e3_1 e3_2 e3_3 hsE3 E3 K5 h35 hb5 hb6 P1 F1 T1 cX hte cS cH
    obtain ⟨p_0, p_1, p_2, p_3, p_4, p_5, p_6⟩ := P6.row.box7p
    have pf_1 := P6.wr.frz 1 (by omega)
    have hbl6 := P6.lt
    go_upto_region 6 with fail
    obtain ⟨P7, F7⟩ := step_at P6 hil
    have FF7 := F6.trans F7
    have T7 := T6.step F7 (by omega)
    have E7 := E6.pf F7 (by omega) hnt
    have h67 := F7.size
    clear p_0 p_1 p_2 p_3 p_4 p_5 p_6 pf_1 P6 E6 F6 T6
    generalize w6.setCell ⟨b, 1, none⟩ (.int .i64 ((ia : Int) + 1)) = w7 at *
    have hbl7 := P7.lt
    obtain ⟨e7_0, e7_1, e7_2, e7_3⟩ := E7.box4; have hsE7 := World.block_lt_of_cell? _ _ e7_0; dsimp only at hsE7
    have cY := fun W (hW : Below w7.heap.size w7 W) => G.listed deep (ia + 1) nsa _ W nv1 hob.out (P7.below hW)
    replace cY := Lib.hid cY
    have hd7 : Below w7.heap.size w7 w7.drew := (Below.refl _ _).drew
    go_region_held3 (fun w' => w'.cell? ⟨tb, 2, none⟩ = some (.string s0) ∧ w'.cell? ⟨tb, 3, none⟩ = some (.int .i64 a)) (first | exact ⟨e7_2, e7_3⟩ | exact ⟨e9_2, e9_3⟩ | go_keep)
      (first | (go_at_call 102; (with_reducible refine (cY.out _ hd7).mono ?_); rintro e w9 ⟨q9, nv9, rfl, P9, F9, T9⟩; dsimp only at P9 T9; have E9 := (E7.below hd7).pf F9 (by omega) hnt; obtain ⟨e9_0, e9_1, e9_2, e9_3⟩ := E9.box4; have hsE9 := World.block_lt_of_cell? _ _ e9_0; dsimp only at hsE9))
    all_goals
      have FF9 := (FF7.near hd7 (by omega)).trans F9
      have T9' := T9.lower (FF7.near hd7 (by omega)).size
      have T7' := (T7.below hd7).step F9 (by omega)
      have hf := fin_node P9 FF9 (kd := 10) (at_ := a) (nn := 0) (s := s0) (n := 2) (exw (by omega) hwf4 z64 hwf3) rfl rfl (by omega) (hk2 T7' T9') rfl
      replace hf := Lib.hid hf
      clear T7' T9' T9 T7 FF9 F9 P9 P7 cY
      go_wp2_with fail
      exact hpost.out _ nv9 _ hf.out
end Go.Proofs.YtcjoheplilaccaaGreat
