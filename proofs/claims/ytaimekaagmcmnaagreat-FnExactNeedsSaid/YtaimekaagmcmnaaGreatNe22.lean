/- Parts of the proof, merged: Pr8, Pr7. -/
import Derived.Deep.LoopGhost
import Derived.Deep.RegionHeld3
import Derived.Test.YtaimekaagmcmnaaGreatNe21
/- The program's parser: sums and products. Printed by gen_pr7.py. -/
namespace Go.Proofs.YtaimekaagmcmnaaGreat
open Go.RowKit
set_option linter.unusedVariables false
set_option linter.unusedSimpArgs false
attribute [local go_sem] Ext.cell

set_option maxRecDepth 100000 in
set_option maxHeartbeats 16000000 in
theorem chain0_g {C : PC} {b : Nat} {R : PFs} (G : Good C b R) (deep i : Nat) (ns : List ByteArray) (o : POut ExT) (w : World) (nv : Value) (h : chainB C.L C.E R deep 0 i ns = some o) (P : PS C b w i nv ns) :
    Calls Tryz.prog 186 #[.pointer (some ⟨b, 0, none⟩), .int .i64 (deep : Int), .int .i64 0] w (EPost C b w nv o) := by
  unfold chainB at h
  rw [if_neg (by decide)] at h
  obtain ⟨oa, hoa, hl⟩ := Option.bind_eq_some_iff.1 h
  clear h
  have hbl := P.lt
  have hlen := P.ok.len
  have cX : ∀ W (hW : Below w.heap.size w W), Calls Tryz.prog 186 #[.pointer (some ⟨b, 0, none⟩), .int .i64 (deep : Int), .int .i64 1] W (EPost C b W nv oa) := fun W hW => G.chain 1 deep i ns oa W nv hoa (by omega) (P.below hW)
  generalize hQ : EPost C b w nv o = Q
  have hpost := epost_out hQ
  clear hQ
  replace cX := Lib.hid cX; replace hpost := Lib.hid hpost; replace hl := Lib.hid hl; replace hoa := Lib.hid hoa
  go_enter Tryz.func186, Tryz.ntmps186
  go_upto_region 6 with fail
  obtain ⟨ws, hWs⟩ : ∃ W, W = w.alloc (.cells #[.string ⟨#[43]⟩, .string ⟨#[45]⟩, .string ⟨#[94]⟩] 9) := ⟨_, rfl⟩
  rw [← hWs]
  have hws : Below w.heap.size w ws := by rw [hWs]; go_grown
  have K : RowAt ws (w.heap.size) 0 (sumSigns.map Value.string) := by rw [hWs]; exact RowAt.box w #[_, _, _] _
  obtain ⟨gs, hgg⟩ : ∃ x, x = w.heap.size := ⟨_, rfl⟩
  rw [← hgg] at K ⊢
  have hgs : w.heap.size ≤ gs := by omega
  clear hWs hgg
  have hnt : nv.ownBlock ≠ some gs := P.fresh hgs
  have hgl : gs < ws.heap.size := World.block_lt_of_cell? _ _ (K 0 _ rfl)
  have Fs := PF.of nv hws (Nat.le_of_lt hbl)
  go_wp2_with (go_at_call 186; (with_reducible refine (cX.out _ hws).mono ?_); rintro e w2 ⟨q2, nv2, rfl, P2, F2, T2⟩)
  have T2' := T2.lower hws.size
  go_loopg [8] 100 (fun gk p wr => ∃ (q : Nat) (nv' : Value) (oo : POut ExT), p = .pointer (some ⟨q, 0, none⟩) ∧ Hid (chainL C.L C.E R deep 0 gk oo = some o) ∧ PS C b wr oo.i nv' oo.ns ∧ PF b ws nv wr nv' ∧ TR w.heap.size nv' wr (.pointer (some ⟨q, 0, none⟩)) oo.t)
  case atStart => exact ⟨q2, nv2, oa, rfl, hl, P2, F2, T2'⟩
  case round =>
    clear P2 F2 T2 T2' hl cX
    obtain ⟨q, nv', oo, rfl, hl, P2, F2, T2⟩ := hrel
    cases gk with
    | zero => have h := hl.out; rw [chainL] at h; cases h
    | succ g =>
      have h := hl.out
      rw [chainL] at h
      clear hl
      obtain ⟨tl, il, nsl⟩ := oo
      dsimp only at h P2 T2
      have hnt2 := F2.nt hnt hgl
      have K2 := K.pf F2 (by omega) hnt
      have FF2 := Fs.trans F2
      have cS := fun W (hW : Below wr.heap.size wr W) => sign_c (P2.below hW)
      have cT2 := fun W (hW : Below wr.heap.size wr W) => tok_c (P2.below hW)
      have hwa := tokAt_wf P2.ok il
      obtain ⟨sa, hsa⟩ : ∃ q, anyS (levelSigns 0) (sgn (tokAt C.L C.E il)) = q := ⟨_, rfl⟩
      have cH := fun W (hW : Below wr.heap.size wr W) => has_c sumSigns signs_ok.2.2.2.2.1 (sgn (tokAt C.L C.E il)) gs W (K2.below hW) 3 rfl (by omega)
      rw [show anyS sumSigns (sgn (tokAt C.L C.E il)) = sa from hsa] at cH
      have hia : sa = true → il < C.L.length := fun h => by
        refine tokAt_kind (E := C.E) fun h0 => ?_
        rw [h] at hsa
        unfold sgn at hsa
        rw [h0, if_neg (by decide)] at hsa
        exact absurd hsa (by decide)
      rw [hsa] at h
      generalize sgn (tokAt C.L C.E il) = sg at *
      generalize tokAt C.L C.E il = t2 at *
      obtain ⟨kd2, nn2, s2, a2⟩ := t2
      obtain ⟨hwa1, hwa2, hwa3, hwa4⟩ := hwa
      dsimp only at h hwa1 hwa2 hwa3 hwa4
      replace cT2 : ∀ W, Below wr.heap.size wr W → Calls Tryz.prog 140 #[.pointer (some ⟨b, 0, none⟩)] W fun e w' => e = .returned (.agg #[.int .i64 kd2, .int .i64 nn2, .string s2, .int .i64 a2]) ∧ Below W.heap.size W w' := cT2
      have hbl2 := P2.lt
      replace cT2 := Lib.hid cT2; replace cS := Lib.hid cS; replace cH := Lib.hid cH; replace hsa := Lib.hid hsa; replace K := Lib.hid K; replace K2 := Lib.hid K2
      cases sa
      · rw [if_neg (by simp)] at h
        obtain rfl := Option.some.inj h
        clear h hia
        go_wp2_with (first
          | (go_at_call 135; (with_reducible refine (cS.out _ (Below.refl _ _)).mono ?_); rintro e w3 ⟨rfl, hb3⟩)
          | (go_at_call 50; (with_reducible refine (cH.out _ hb3).mono ?_); rintro e w4 ⟨rfl, hb4⟩))
        have h24 := hb3.trans (hb4.mono hb3.size)
        exact hpost.out q nv' _ ⟨P2.below h24, FF2.near h24 (by omega), T2.below h24⟩
      · rw [if_pos rfl] at h
        obtain ⟨ob, hob, h⟩ := Option.bind_eq_some_iff.1 h
        have hil := hia rfl
        clear hia
        replace h := Lib.hid h; replace hob := Lib.hid hob
        go_upto_region 9 with (first
          | (go_at_call 135; (with_reducible refine (cS.out _ (Below.refl _ _)).mono ?_); rintro e w3 ⟨rfl, hb3⟩)
          | (go_at_call 50; (with_reducible refine (cH.out _ hb3).mono ?_); rintro e w4 ⟨rfl, hb4⟩; have h24 := hb3.trans (hb4.mono hb3.size))
          | (go_at_call 140; (with_reducible refine (cT2.out _ h24).mono ?_); rintro e w5 ⟨rfl, hb5⟩))
        have h25 := h24.trans (hb5.mono h24.size)
        obtain ⟨w6, hW6⟩ : ∃ W, W = w5.alloc (.cells #[.int .i64 kd2, .int .i64 nn2, .string s2, .int .i64 a2] 181) := ⟨_, rfl⟩
        rw [← hW6]
        have hb6 : Below w5.heap.size w5 w6 := by rw [hW6]; go_grown
        have E6 : RowAt w6 w5.heap.size 0 [.int .i64 kd2, .int .i64 nn2, .string s2, .int .i64 a2] := by rw [hW6]; exact RowAt.box w5 #[_, _, _, _] _
        have hz5 := h25.size
        have hz6 : w5.heap.size < w6.heap.size := by rw [hW6]; simp
        have h26 := h25.trans (hb6.mono hz5)
        obtain ⟨tb, htb⟩ : ∃ x, x = w5.heap.size := ⟨_, rfl⟩
        rw [← htb] at E6 hz6 hz5 ⊢
        have hntb : nv'.ownBlock ≠ some tb := P2.fresh hz5
        have P6 := P2.below h26
        have F6 := F2.near h26 (by omega)
        have T6 := T2.below h26
        clear hW6 hb6 hb5 hb4 hb3 h24 h25 htb P2 T2 F2 cT2 cS cH K2 FF2
        obtain ⟨p_0, p_1, p_2, p_3, p_4, p_5, p_6⟩ := P6.row.box7p
        have pf_1 := P6.wr.frz 1 (by omega)
        have hbl6 := P6.lt
        go_upto_region 10 with fail
        obtain ⟨P7, F7⟩ := step_at P6 hil
        have FF7 := F6.trans F7
        have T7 := T6.step F7 (by omega)
        have E7 := E6.pf F7 (by omega) hntb
        have h67 := F7.size
        clear p_0 p_1 p_2 p_3 p_4 p_5 p_6 pf_1 P6 E6 F6 T6
        generalize w6.setCell ⟨b, 1, none⟩ (.int .i64 ((il : Int) + 1)) = w7 at *
        have hbl7 := P7.lt
        obtain ⟨e7_0, e7_1, e7_2, e7_3⟩ := E7.box4; have hsE7 := World.block_lt_of_cell? _ _ e7_0; dsimp only at hsE7
        have cY : ∀ W (hW : Below w7.heap.size w7 W), Calls Tryz.prog 186 #[.pointer (some ⟨b, 0, none⟩), .int .i64 (deep : Int), .int .i64 1] W (EPost C b W nv' ob) := fun W hW => G.chain 1 deep (il + 1) nsl ob W nv' hob.out (by omega) (P7.below hW)
        replace cY := Lib.hid cY
        have hd7 : Below w7.heap.size w7 w7.drew := (Below.refl _ _).drew
        have hwr : IntKind.i64.wrap 1 = 1 := by decide
        go_region_held3 (fun w' => w'.cell? ⟨tb, 2, none⟩ = some (.string s2) ∧ w'.cell? ⟨tb, 3, none⟩ = some (.int .i64 a2)) (first | exact ⟨e7_2, e7_3⟩ | exact ⟨e9_2, e9_3⟩ | go_keep)
          (first | (go_at_call 186; (with_reducible refine (cY.out _ hd7).mono ?_); rintro e w9 ⟨q9, nv9, rfl, P9, F9, T9⟩; have E9 := (E7.below hd7).pf F9 (by omega) hntb; obtain ⟨e9_0, e9_1, e9_2, e9_3⟩ := E9.box4; have hsE9 := World.block_lt_of_cell? _ _ e9_0; dsimp only at hsE9))
        all_goals
          have FF9 := (FF7.near hd7 (by omega)).trans F9
          have T9' := T9.lower (Fs.trans (FF7.near hd7 (by omega))).size
          have T7' := (T7.below hd7).step F9 (by omega)
          have hf := fin_node P9 (Fs.trans FF9) (kd := 10) (at_ := a2) (nn := 0) (s := s2) (n := 2) (exw (by omega) hwa4 z64 hwa3) rfl rfl (by omega) (hk2 T7' T9') rfl
          have hbl9 := P9.lt
          replace hf := Lib.hid hf
          clear T7' T9' T9 T7 F9 P9 P7 cY
          go_wp2_with fail
          go_roundg g
          case rel => exact ⟨_, nv9, _, rfl, h, hf.out.1, FF9.near (by go_grown) (by omega), hf.out.2.2⟩
          case measure => omega

set_option maxRecDepth 100000 in
set_option maxHeartbeats 16000000 in
theorem chain1_g {C : PC} {b : Nat} {R : PFs} (G : Good C b R) (deep i : Nat) (ns : List ByteArray) (o : POut ExT) (w : World) (nv : Value) (h : chainB C.L C.E R deep 1 i ns = some o) (P : PS C b w i nv ns) :
    Calls Tryz.prog 186 #[.pointer (some ⟨b, 0, none⟩), .int .i64 (deep : Int), .int .i64 1] w (EPost C b w nv o) := by
  unfold chainB at h
  rw [if_neg (by decide)] at h
  obtain ⟨oa, hoa, hl⟩ := Option.bind_eq_some_iff.1 h
  clear h
  have hbl := P.lt
  have hlen := P.ok.len
  have cX : ∀ W (hW : Below w.heap.size w W), Calls Tryz.prog 186 #[.pointer (some ⟨b, 0, none⟩), .int .i64 (deep : Int), .int .i64 2] W (EPost C b W nv oa) := fun W hW => G.chain 2 deep i ns oa W nv hoa (by omega) (P.below hW)
  generalize hQ : EPost C b w nv o = Q
  have hpost := epost_out hQ
  clear hQ
  replace cX := Lib.hid cX; replace hpost := Lib.hid hpost; replace hl := Lib.hid hl; replace hoa := Lib.hid hoa
  go_enter Tryz.func186, Tryz.ntmps186
  go_upto_region 6 with fail
  obtain ⟨ws, hWs⟩ : ∃ W, W = (w.alloc (.cells #[.string ⟨#[43]⟩, .string ⟨#[45]⟩, .string ⟨#[94]⟩] 9)).alloc (.cells #[.string ⟨#[42]⟩, .string ⟨#[47]⟩, .string ⟨#[37]⟩] 9) := ⟨_, rfl⟩
  rw [← hWs]
  have hws : Below w.heap.size w ws := by rw [hWs]; go_grown
  have K : RowAt ws (w.heap.size + 1) 0 (mulSigns.map Value.string) := by rw [hWs]; have h := RowAt.box (w.alloc (.cells #[.string ⟨#[43]⟩, .string ⟨#[45]⟩, .string ⟨#[94]⟩] 9)) #[.string ⟨#[42]⟩, .string ⟨#[47]⟩, .string ⟨#[37]⟩] 9; simp only [World.size_alloc] at h; exact h
  obtain ⟨gs, hgg⟩ : ∃ x, x = w.heap.size + 1 := ⟨_, rfl⟩
  rw [← hgg] at K ⊢
  have hgs : w.heap.size ≤ gs := by omega
  clear hWs hgg
  have hnt : nv.ownBlock ≠ some gs := P.fresh hgs
  have hgl : gs < ws.heap.size := World.block_lt_of_cell? _ _ (K 0 _ rfl)
  have Fs := PF.of nv hws (Nat.le_of_lt hbl)
  go_wp2_with (go_at_call 186; (with_reducible refine (cX.out _ hws).mono ?_); rintro e w2 ⟨q2, nv2, rfl, P2, F2, T2⟩)
  have T2' := T2.lower hws.size
  go_loopg [8] 100 (fun gk p wr => ∃ (q : Nat) (nv' : Value) (oo : POut ExT), p = .pointer (some ⟨q, 0, none⟩) ∧ Hid (chainL C.L C.E R deep 1 gk oo = some o) ∧ PS C b wr oo.i nv' oo.ns ∧ PF b ws nv wr nv' ∧ TR w.heap.size nv' wr (.pointer (some ⟨q, 0, none⟩)) oo.t)
  case atStart => exact ⟨q2, nv2, oa, rfl, hl, P2, F2, T2'⟩
  case round =>
    clear P2 F2 T2 T2' hl cX
    obtain ⟨q, nv', oo, rfl, hl, P2, F2, T2⟩ := hrel
    cases gk with
    | zero => have h := hl.out; rw [chainL] at h; cases h
    | succ g =>
      have h := hl.out
      rw [chainL] at h
      clear hl
      obtain ⟨tl, il, nsl⟩ := oo
      dsimp only at h P2 T2
      have hnt2 := F2.nt hnt hgl
      have K2 := K.pf F2 (by omega) hnt
      have FF2 := Fs.trans F2
      have cS := fun W (hW : Below wr.heap.size wr W) => sign_c (P2.below hW)
      have cT2 := fun W (hW : Below wr.heap.size wr W) => tok_c (P2.below hW)
      have hwa := tokAt_wf P2.ok il
      obtain ⟨sa, hsa⟩ : ∃ q, anyS (levelSigns 1) (sgn (tokAt C.L C.E il)) = q := ⟨_, rfl⟩
      have cH := fun W (hW : Below wr.heap.size wr W) => has_c mulSigns signs_ok.2.2.2.2.2 (sgn (tokAt C.L C.E il)) gs W (K2.below hW) 3 rfl (by omega)
      rw [show anyS mulSigns (sgn (tokAt C.L C.E il)) = sa from hsa] at cH
      have hia : sa = true → il < C.L.length := fun h => by
        refine tokAt_kind (E := C.E) fun h0 => ?_
        rw [h] at hsa
        unfold sgn at hsa
        rw [h0, if_neg (by decide)] at hsa
        exact absurd hsa (by decide)
      rw [hsa] at h
      generalize sgn (tokAt C.L C.E il) = sg at *
      generalize tokAt C.L C.E il = t2 at *
      obtain ⟨kd2, nn2, s2, a2⟩ := t2
      obtain ⟨hwa1, hwa2, hwa3, hwa4⟩ := hwa
      dsimp only at h hwa1 hwa2 hwa3 hwa4
      replace cT2 : ∀ W, Below wr.heap.size wr W → Calls Tryz.prog 140 #[.pointer (some ⟨b, 0, none⟩)] W fun e w' => e = .returned (.agg #[.int .i64 kd2, .int .i64 nn2, .string s2, .int .i64 a2]) ∧ Below W.heap.size W w' := cT2
      have hbl2 := P2.lt
      replace cT2 := Lib.hid cT2; replace cS := Lib.hid cS; replace cH := Lib.hid cH; replace hsa := Lib.hid hsa; replace K := Lib.hid K; replace K2 := Lib.hid K2
      cases sa
      · rw [if_neg (by simp)] at h
        obtain rfl := Option.some.inj h
        clear h hia
        go_wp2_with (first
          | (go_at_call 135; (with_reducible refine (cS.out _ (Below.refl _ _)).mono ?_); rintro e w3 ⟨rfl, hb3⟩)
          | (go_at_call 50; (with_reducible refine (cH.out _ hb3).mono ?_); rintro e w4 ⟨rfl, hb4⟩))
        have h24 := hb3.trans (hb4.mono hb3.size)
        exact hpost.out q nv' _ ⟨P2.below h24, FF2.near h24 (by omega), T2.below h24⟩
      · rw [if_pos rfl] at h
        obtain ⟨ob, hob, h⟩ := Option.bind_eq_some_iff.1 h
        have hil := hia rfl
        clear hia
        replace h := Lib.hid h; replace hob := Lib.hid hob
        go_upto_region 9 with (first
          | (go_at_call 135; (with_reducible refine (cS.out _ (Below.refl _ _)).mono ?_); rintro e w3 ⟨rfl, hb3⟩)
          | (go_at_call 50; (with_reducible refine (cH.out _ hb3).mono ?_); rintro e w4 ⟨rfl, hb4⟩; have h24 := hb3.trans (hb4.mono hb3.size))
          | (go_at_call 140; (with_reducible refine (cT2.out _ h24).mono ?_); rintro e w5 ⟨rfl, hb5⟩))
        have h25 := h24.trans (hb5.mono h24.size)
        obtain ⟨w6, hW6⟩ : ∃ W, W = w5.alloc (.cells #[.int .i64 kd2, .int .i64 nn2, .string s2, .int .i64 a2] 181) := ⟨_, rfl⟩
        rw [← hW6]
        have hb6 : Below w5.heap.size w5 w6 := by rw [hW6]; go_grown
        have E6 : RowAt w6 w5.heap.size 0 [.int .i64 kd2, .int .i64 nn2, .string s2, .int .i64 a2] := by rw [hW6]; exact RowAt.box w5 #[_, _, _, _] _
        have hz5 := h25.size
        have hz6 : w5.heap.size < w6.heap.size := by rw [hW6]; simp
        have h26 := h25.trans (hb6.mono hz5)
        obtain ⟨tb, htb⟩ : ∃ x, x = w5.heap.size := ⟨_, rfl⟩
        rw [← htb] at E6 hz6 hz5 ⊢
        have hntb : nv'.ownBlock ≠ some tb := P2.fresh hz5
        have P6 := P2.below h26
        have F6 := F2.near h26 (by omega)
        have T6 := T2.below h26
        clear hW6 hb6 hb5 hb4 hb3 h24 h25 htb P2 T2 F2 cT2 cS cH K2 FF2
        obtain ⟨p_0, p_1, p_2, p_3, p_4, p_5, p_6⟩ := P6.row.box7p
        have pf_1 := P6.wr.frz 1 (by omega)
        have hbl6 := P6.lt
        go_upto_region 10 with fail
        obtain ⟨P7, F7⟩ := step_at P6 hil
        have FF7 := F6.trans F7
        have T7 := T6.step F7 (by omega)
        have E7 := E6.pf F7 (by omega) hntb
        have h67 := F7.size
        clear p_0 p_1 p_2 p_3 p_4 p_5 p_6 pf_1 P6 E6 F6 T6
        generalize w6.setCell ⟨b, 1, none⟩ (.int .i64 ((il : Int) + 1)) = w7 at *
        have hbl7 := P7.lt
        obtain ⟨e7_0, e7_1, e7_2, e7_3⟩ := E7.box4; have hsE7 := World.block_lt_of_cell? _ _ e7_0; dsimp only at hsE7
        have cY : ∀ W (hW : Below w7.heap.size w7 W), Calls Tryz.prog 186 #[.pointer (some ⟨b, 0, none⟩), .int .i64 (deep : Int), .int .i64 2] W (EPost C b W nv' ob) := fun W hW => G.chain 2 deep (il + 1) nsl ob W nv' hob.out (by omega) (P7.below hW)
        replace cY := Lib.hid cY
        have hd7 : Below w7.heap.size w7 w7.drew := (Below.refl _ _).drew
        have hwr : IntKind.i64.wrap 2 = 2 := by decide
        go_region_held3 (fun w' => w'.cell? ⟨tb, 2, none⟩ = some (.string s2) ∧ w'.cell? ⟨tb, 3, none⟩ = some (.int .i64 a2)) (first | exact ⟨e7_2, e7_3⟩ | exact ⟨e9_2, e9_3⟩ | go_keep)
          (first | (go_at_call 186; (with_reducible refine (cY.out _ hd7).mono ?_); rintro e w9 ⟨q9, nv9, rfl, P9, F9, T9⟩; have E9 := (E7.below hd7).pf F9 (by omega) hntb; obtain ⟨e9_0, e9_1, e9_2, e9_3⟩ := E9.box4; have hsE9 := World.block_lt_of_cell? _ _ e9_0; dsimp only at hsE9))
        all_goals
          have FF9 := (FF7.near hd7 (by omega)).trans F9
          have T9' := T9.lower (Fs.trans (FF7.near hd7 (by omega))).size
          have T7' := (T7.below hd7).step F9 (by omega)
          have hf := fin_node P9 (Fs.trans FF9) (kd := 10) (at_ := a2) (nn := 0) (s := s2) (n := 2) (exw (by omega) hwa4 z64 hwa3) rfl rfl (by omega) (hk2 T7' T9') rfl
          have hbl9 := P9.lt
          replace hf := Lib.hid hf
          clear T7' T9' T9 T7 F9 P9 P7 cY
          go_wp2_with fail
          go_roundg g
          case rel => exact ⟨_, nv9, _, rfl, h, hf.out.1, FF9.near (by go_grown) (by omega), hf.out.2.2⟩
          case measure => omega

set_option maxRecDepth 100000 in
set_option maxHeartbeats 4000000 in
theorem chain2_g {C : PC} {b : Nat} {R : PFs} (G : Good C b R) (deep i : Nat) (ns : List ByteArray) (o : POut ExT) (w : World) (nv : Value) (h : chainB C.L C.E R deep 2 i ns = some o) (P : PS C b w i nv ns) :
    Calls Tryz.prog 186 #[.pointer (some ⟨b, 0, none⟩), .int .i64 (deep : Int), .int .i64 2] w (EPost C b w nv o) := by
  unfold chainB at h
  rw [if_pos rfl] at h
  have cX := G.unary deep i ns o w nv h P
  replace cX := Lib.hid cX
  clear h P
  go_enter Tryz.func186, Tryz.ntmps186
  go_wp2_with (go_at_call 190; (with_reducible refine (cX.out).mono ?_); rintro e w2 ⟨q2, nv2, rfl, h2⟩)
  go_returns
  exact ⟨q2, nv2, rfl, h2⟩
theorem chain_g {C : PC} {b : Nat} {R : PFs} (G : Good C b R) : ∀ level deep i ns o w nv, chainB C.L C.E R deep level i ns = some o → level ≤ 2 → PS C b w i nv ns → Calls Tryz.prog 186 #[.pointer (some ⟨b, 0, none⟩), .int .i64 (deep : Int), .int .i64 (level : Int)] w (EPost C b w nv o) := fun level deep i ns o w nv h hl P => by
  match level, hl, h with
  | 0, _, h => exact chain0_g G deep i ns o w nv h P
  | 1, _, h => exact chain1_g G deep i ns o w nv h P
  | 2, _, h => exact chain2_g G deep i ns o w nv h P
end Go.Proofs.YtaimekaagmcmnaaGreat

/- The program's parser: application, sums and products. Printed by gen_pr7.py. -/
namespace Go.Proofs.YtaimekaagmcmnaaGreat
open Go.RowKit
set_option linter.unusedVariables false
set_option linter.unusedSimpArgs false
attribute [local go_sem] Ext.cell

set_option maxRecDepth 100000 in
set_option maxHeartbeats 16000000 in
theorem app_g {C : PC} {b : Nat} {R : PFs} (G : Good C b R) : EC C b 191 (appB C.L C.E R) := by
  intro deep i ns o w nv h P
  unfold appB at h
  split at h
  · cases h
  rename_i hk4
  obtain ⟨oa, hoa, hl⟩ := Option.bind_eq_some_iff.1 h
  clear h
  have cT := tok_c P
  have hbl := P.lt
  have cX := fun W (hW : Below w.heap.size w W) => G.atom deep i ns oa W nv hoa (P.below hW)
  generalize hQ : EPost C b w nv o = Q
  have hpost := epost_out hQ
  clear hQ
  generalize tokAt C.L C.E i = t at *
  obtain ⟨kd, nn, s0, a⟩ := t
  replace cT : Calls Tryz.prog 140 #[.pointer (some ⟨b, 0, none⟩)] w fun e w' => e = .returned (.agg #[.int .i64 kd, .int .i64 nn, .string s0, .int .i64 a]) ∧ Below w.heap.size w w' := cT
  have d4 : (kd == 4) = false := beq_eq_false_iff_ne.2 hk4
  have hfd := fun W => tok_f0 kd nn s0 a W
  replace cT := Lib.hid cT; replace cX := Lib.hid cX; replace hpost := Lib.hid hpost; replace hl := Lib.hid hl; replace hoa := Lib.hid hoa
  go_enter Tryz.func191, Tryz.ntmps191
  go_wp2_with (first
    | (go_at_call 140; (with_reducible refine (cT.out).mono ?_); rintro e w1 ⟨rfl, hb1⟩)
    | (go_at_call 192; (with_reducible refine (cX.out _ hb1).mono ?_); rintro e w2 ⟨q2, nv2, rfl, P2, F2, T2⟩))
  have FF2 := (PF.of nv hb1 (Nat.le_of_lt hbl)).trans F2
  have T2' := T2.lower hb1.size
  clear hfd d4
  go_loopg [5, 6] 100 (fun gk c p wr => ∃ (q : Nat) (nv' : Value) (oo : POut ExT), c = .bool false ∧ p = .pointer (some ⟨q, 0, none⟩) ∧ Hid (appL C.L C.E R deep gk oo = some o) ∧ PS C b wr oo.i nv' oo.ns ∧ PF b w nv wr nv' ∧ TR w.heap.size nv' wr (.pointer (some ⟨q, 0, none⟩)) oo.t)
  case atStart => exact ⟨q2, nv2, oa, rfl, rfl, hl, P2, FF2, T2'⟩
  case round =>
    clear P2 F2 T2 FF2 T2' hl
    obtain ⟨q, nv', oo, rfl, rfl, hl, P2, F2, T2⟩ := hrel
    cases gk with
    | zero => have h := hl.out; rw [appL] at h; cases h
    | succ g =>
      have h := hl.out
      rw [appL] at h
      clear hl
      obtain ⟨tl, il, nsl⟩ := oo
      dsimp only at h P2 T2
      have cT2 := fun W (hW : Below wr.heap.size wr W) => tok_c (P2.below hW)
      have cA := fun W => startsAtom_c (tokAt C.L C.E il) W
      have hwa := tokAt_wf P2.ok il
      obtain ⟨sa, hsa⟩ : ∃ q, startsAtomP (tokAt C.L C.E il) = q := ⟨_, rfl⟩
      rw [hsa] at h cA
      generalize tokAt C.L C.E il = t2 at *
      obtain ⟨kd2, nn2, s2, a2⟩ := t2
      obtain ⟨hwa1, hwa2, hwa3, hwa4⟩ := hwa
      dsimp only at h hwa1 hwa2 hwa3 hwa4
      replace cT2 : ∀ W, Below wr.heap.size wr W → Calls Tryz.prog 140 #[.pointer (some ⟨b, 0, none⟩)] W fun e w' => e = .returned (.agg #[.int .i64 kd2, .int .i64 nn2, .string s2, .int .i64 a2]) ∧ Below W.heap.size W w' := cT2
      replace cA : ∀ W, Calls Tryz.prog 163 #[.agg #[.int .i64 kd2, .int .i64 nn2, .string s2, .int .i64 a2]] W fun e w' => e = .returned (.bool sa) ∧ Below W.heap.size W w' := cA
      have hbl2 := P2.lt
      replace cT2 := Lib.hid cT2; replace cA := Lib.hid cA; replace hsa := Lib.hid hsa
      cases sa
      · rw [if_neg (by simp)] at h
        obtain rfl := Option.some.inj h
        clear h
        go_wp2_with (first
          | (go_at_call 140; (with_reducible refine (cT2.out _ (Below.refl _ _)).mono ?_); rintro e w3 ⟨rfl, hb3⟩)
          | (go_at_call 163; (with_reducible refine (cA.out _).mono ?_); rintro e w4 ⟨rfl, hb4⟩))
        have h24 := hb3.trans (hb4.mono hb3.size)
        exact hpost.out q nv' _ ⟨P2.below h24, F2.near h24 (by omega), T2.below h24⟩
      · rw [if_pos rfl] at h
        obtain ⟨ob, hob, h⟩ := Option.bind_eq_some_iff.1 h
        have cY := fun W (hW : Below wr.heap.size wr W) => G.atom deep il nsl ob W nv' hob (P2.below hW)
        have hfd := fun W => tok_f3 kd2 nn2 s2 a2 W
        replace cY := Lib.hid cY; replace h := Lib.hid h; replace hob := Lib.hid hob
        go_upto_region 9 with (first
          | (go_at_call 140; first | ((with_reducible refine (cT2.out _ (Below.refl _ _)).mono ?_); rintro e w3 ⟨rfl, hb3⟩) | ((with_reducible refine (cT2.out _ h24).mono ?_); rintro e w5 ⟨rfl, hb5⟩; have h25 := h24.trans (hb5.mono h24.size)))
          | (go_at_call 163; (with_reducible refine (cA.out _).mono ?_); rintro e w4 ⟨rfl, hb4⟩; have h24 := hb3.trans (hb4.mono hb3.size))
          | (go_at_call 192; (with_reducible refine (cY.out _ h25).mono ?_); rintro e w6 ⟨q6, nv6, rfl, P6, F6, T6⟩))
        have F5 := F2.near h25 (by omega)
        have T5 := T2.below h25
        have FF6 := F5.trans F6
        have T5' := T5.step F6 (by omega)
        have T6' := T6.lower F5.size
        have hf := fin_node P6 FF6 (kd := 6) (at_ := a2) (nn := 0) (s := bs []) (n := 2) (exw (by omega) hwa4 z64 bs_ok) rfl rfl (by omega) (hk2 T5' T6') rfl
        replace hf := Lib.hid hf
        clear T5' T6' T6 T5 F5 FF6 F6 P6 cY h25 hb5 h24 hb4 hb3
        go_wp2_with fail
        go_roundg g
        case rel => exact ⟨_, nv6, _, rfl, rfl, h, hf.out⟩
        case measure => omega
end Go.Proofs.YtaimekaagmcmnaaGreat
