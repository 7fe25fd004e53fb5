/- Parts of the proof, merged: Pr9. -/
import Derived.Test.YtaimekaagmcmnaaGreatNe16
/- The program's parser: an expression. -/
namespace Go.Proofs.YtaimekaagmcmnaaGreat
open Go.RowKit
set_option linter.unusedVariables false
set_option linter.unusedSimpArgs false
attribute [local go_sem] Ext.cell

theorem PS.other {C : PC} {b i q o : Nat} {w : World} {nv : Value} {ns : List ByteArray} (h : PS C b w i nv ns) (hq : b < q) (hn : nv.ownBlock ≠ some q) (u : Value) : PS C b (w.setCell ⟨q, o, none⟩ u) i nv ns := by
  have K : Kept (· = q) w (w.setCell ⟨q, o, none⟩ u) := (Kept.refl (· = q) w).set (p := ⟨q, o, none⟩) rfl u
  exact ⟨h.ok.to ((Below.refl b w).setCell (p := ⟨q, o, none⟩) (Nat.le_of_lt hq) u), h.row.kept K (by omega), h.wr.kept K (by omega), h.nam.kept K (fun g hg e => hn (e ▸ hg)), h.ile, h.nle⟩
theorem PF.other {b q o : Nat} {w w' : World} {nv nv' : Value} (h : PF b w nv w' nv') (hb : b ≤ w.heap.size) (hq : w.heap.size ≤ q) (u : Value) : PF b w nv (w'.setCell ⟨q, o, none⟩ u) nv' := by
  have K : Kept (· = q) w' (w'.setCell ⟨q, o, none⟩ u) := (Kept.refl (· = q) w').set (p := ⟨q, o, none⟩) rfl u
  have hs := h.size
  exact ⟨h.below.setCell (p := ⟨q, o, none⟩) (Nat.le_trans hb hq) u, fun x h1 h2 => (K x (by omega) (by omega)).trans (h.kept x h1 h2), h.blk⟩
theorem TR.other {lo q o : Nat} {nv p : Value} {w : World} {t : ExT} (h : TR lo nv w p t) (hq : q < lo) (u : Value) : TR lo nv (w.setCell ⟨q, o, none⟩ u) p t := by
  obtain ⟨F, h⟩ := h
  exact ⟨F, h.kept ((Kept.refl (· = q) w).set (p := ⟨q, o, none⟩) rfl u) (fun x hx e => by have := hx.1; omega)⟩
theorem fin_fun {C : PC} {b i q lo : Nat} {w w8 W : World} {nv nv8 p : Value} {ns : List ByteArray} {t : ExT} (P : PS C b w8 i nv8 ns) (F : PF b w nv w8 nv8) (h0 : b < w.heap.size) (h1 : w.heap.size ≤ q) (h2 : q < lo) (h3 : lo ≤ w8.heap.size) (hn : nv8.ownBlock ≠ some q) {kd at_ nn : Int} {s : ByteArray} (hwf : (ExT.mk kd at_ nn s [t] []).wf)
    (hr : RowAt w8 q 0 [.int .i64 kd, .int .i64 at_, .int .i64 nn, .string s, .slice none 0 0, .slice none 0 0]) (T : TR lo nv8 w8 p t)
    (hW : W = (w8.setCell ⟨q, 4, none⟩ (.slice (some ⟨w8.heap.size, 0, none⟩) 1 1)).alloc (.cells #[p] 127)) :
    PS C b W i nv8 ns ∧ PF b w nv W nv8 ∧ TR w.heap.size nv8 W (.pointer (some ⟨q, 0, none⟩)) (exN kd at_ nn s [t]) := by
  obtain ⟨v, hv⟩ : ∃ v : Value, v = .slice (some ⟨w8.heap.size, 0, none⟩) 1 1 := ⟨_, rfl⟩
  rw [← hv] at hW
  have P9 := P.other (o := 4) (by omega) hn v
  have F9 := F.other (o := 4) (Nat.le_of_lt h0) h1 v
  have hr9 := hr.putAt (j := 4) (by simp) v
  have T9 := T.other (o := 4) h2 v
  have hsz : (w8.setCell ⟨q, 4, none⟩ v).heap.size = w8.heap.size := by simp
  have hfr := P.fresh (q := w8.heap.size) (Nat.le_refl _)
  rw [← hsz] at hfr hv
  simp only [Nat.zero_add, List.set] at hr9
  generalize w8.setCell ⟨q, 4, none⟩ v = w9 at *
  have hb : Below w9.heap.size w9 W := by rw [hW]; go_grown
  have hg : RowAt W w9.heap.size 0 [p] := by rw [hW]; exact RowAt.box w9 #[_] _
  subst hv
  exact ⟨P9.below hb, F9.near hb (Nat.le_of_lt P9.lt), TR.node (ts := [t]) (vs := [p]) ⟨h1, hn⟩ ⟨by omega, hfr⟩ hwf (hr9.below hb) (Nat.le_refl _) (by decide) hg rfl (hk1 ((T9.below hb).lower (by omega)))⟩
theorem expr_in {t : GTok} (h : startsExprP t = true) : t.kind ≠ 0 := fun h0 => by
  unfold startsExprP at h
  rw [Bool.or_eq_true] at h
  rcases h with h | h
  · exact atom_in h h0
  · unfold sgn at h
    rw [h0, if_neg (by decide)] at h
    exact absurd h (by decide)
set_option maxRecDepth 100000 in
set_option maxHeartbeats 16000000 in
theorem expr_g {C : PC} {b : Nat} {R : PFs} (G : Good C b R) : EC C b 116 (exprB C.L C.E R) := by
  intro deep i ns o w nv h P
  generalize hQ : EPost C b w nv o = Q
  have hpost := epost_out hQ
  clear hQ
  have cT := tok_c P
  have cA := fun W => startsExpr_c (tokAt C.L C.E i) W
  have cS := fun W => SignOf_c (tokAt C.L C.E i) W
  have htw := tokAt_wf P.ok i
  unfold exprB at h
  have hin := fun h => tokAt_kind (L := C.L) (E := C.E) (i := i) (expr_in h)
  dsimp only at h
  generalize hsg : sgn (tokAt C.L C.E i) = sg at *
  generalize tokAt C.L C.E i = t at *
  obtain ⟨kd, nn, s0, a⟩ := t
  obtain ⟨hw1, hw2, hw3, hw4⟩ := htw
  dsimp only at h hw1 hw2 hw3 hw4
  generalize hsa : startsExprP ⟨kd, nn, s0, a⟩ = sa at *
  cases sa
  · rw [if_pos rfl] at h; cases h
  rw [if_neg (by simp)] at h
  split at h
  · cases h
  rename_i hdp
  have hi := hin rfl
  replace cT : Calls Tryz.prog 140 #[.pointer (some ⟨b, 0, none⟩)] w fun e w' => e = .returned (.agg #[.int .i64 kd, .int .i64 nn, .string s0, .int .i64 a]) ∧ Below w.heap.size w w' := cT
  replace cA : ∀ W, Calls Tryz.prog 141 #[.agg #[.int .i64 kd, .int .i64 nn, .string s0, .int .i64 a]] W fun e w' => e = .returned (.bool true) ∧ Below W.heap.size W w' := cA
  replace cS : ∀ W, Calls Tryz.prog 142 #[.agg #[.int .i64 kd, .int .i64 nn, .string s0, .int .i64 a]] W fun e w' => e = .returned (.string sg) ∧ Below W.heap.size W w' := cS
  have hlen := P.ok.len
  have hbl := P.lt
  have dd : decide ((100 : Int) < (deep : Int)) = false := decide_eq_false (by omega)
  have dd2 : decide (100 < deep) = false := decide_eq_false (by omega)
  clear hin
  replace cT := Lib.hid cT; replace cA := Lib.hid cA; replace cS := Lib.hid cS; replace hpost := Lib.hid hpost; replace hsa := Lib.hid hsa; replace hsg := Lib.hid hsg
  go_enter Tryz.func116, Tryz.ntmps116
  go_upto_region 2 with (go_at_call 140; (with_reducible refine (cT.out).mono ?_); rintro e w1 ⟨rfl, hb1⟩)
  obtain ⟨w2, hW2⟩ : ∃ W, W = w1.alloc (.cells #[.int .i64 kd, .int .i64 nn, .string s0, .int .i64 a] 181) := ⟨_, rfl⟩
  rw [← hW2]
  have hb2 : Below w1.heap.size w1 w2 := by rw [hW2]; go_grown
  have E2 : RowAt w2 w1.heap.size 0 [.int .i64 kd, .int .i64 nn, .string s0, .int .i64 a] := by rw [hW2]; exact RowAt.box w1 #[_, _, _, _] _
  have hz1 := hb1.size
  have hz2 : w1.heap.size < w2.heap.size := by rw [hW2]; simp
  have hw02 := hb1.trans (hb2.mono hz1)
  obtain ⟨tb, htb⟩ : ∃ x, x = w1.heap.size := ⟨_, rfl⟩
  rw [← htb] at E2 hz1 hz2 ⊢
  have hnt : nv.ownBlock ≠ some tb := P.fresh hz1
  clear hW2 hb2 hb1 htb
  obtain ⟨e2_0, e2_1, e2_2, e2_3⟩ := E2.box4; have hsE2 := World.block_lt_of_cell? _ _ e2_0; dsimp only at hsE2
  go_upto_region 9 with (first
    | (go_at_call 141; (with_reducible refine (cA.out _).mono ?_); rintro e w3' ⟨rfl, hb3'⟩; have hw03' := hw02.trans (hb3'.mono hw02.size); have E3' := E2.below hb3'; clear e2_0 e2_1 e2_2 e2_3 hsE2; obtain ⟨e3'_0, e3'_1, e3'_2, e3'_3⟩ := E3'.box4; have hsE3' := World.block_lt_of_cell? _ _ e3'_0; dsimp only at hsE3')
    | (go_at_call 142; (with_reducible refine (cS.out _).mono ?_); rintro e w3 ⟨rfl, hb3⟩; have hw03 := hw03'.trans (hb3.mono hw03'.size); have E3 := E3'.below hb3))
  have P3 := P.below hw03
  have F3 := PF.of nv hw03 (Nat.le_of_lt hbl)
  have htb3 : tb < w3.heap.size := World.block_lt_of_cell? _ _ (E3 0 _ rfl)
  clear e3'_0 e3'_1 e3'_2 e3'_3 hsE3' E2 E3' hw02 hw03' hb3 hb3' hw03 hz2 cT cA cS
  have hbl3 := P3.lt
  have hz3 := F3.size
  obtain ⟨a1, ha1⟩ : ∃ q, eqS sg qFun = q := ⟨_, rfl⟩
  have c1 : (sg.toList == [102, 117, 110]) = a1 := (eqS_lit qFun rfl).trans ha1
  obtain ⟨a2, ha2⟩ : ∃ q, eqS sg qLet = q := ⟨_, rfl⟩
  have c2 : (sg.toList == [108, 101, 116]) = a2 := (eqS_lit qLet rfl).trans ha2
  obtain ⟨a3, ha3⟩ : ∃ q, eqS sg qIf = q := ⟨_, rfl⟩
  have c3 : (sg.toList == [105, 102]) = a3 := (eqS_lit qIf rfl).trans ha3
  obtain ⟨a4, ha4⟩ : ∃ q, eqS sg qMatch = q := ⟨_, rfl⟩
  have c4 : (sg.toList == [109, 97, 116, 99, 104]) = a4 := (eqS_lit qMatch rfl).trans ha4
  obtain ⟨a5, ha5⟩ : ∃ q, eqS sg qTry = q := ⟨_, rfl⟩
  have c5 : (sg.toList == [116, 114, 121]) = a5 := (eqS_lit qTry rfl).trans ha5
  rw [ha1, ha2, ha3, ha4, ha5] at h
  replace ha1 := Lib.hid ha1; replace ha2 := Lib.hid ha2; replace ha3 := Lib.hid ha3; replace ha4 := Lib.hid ha4; replace ha5 := Lib.hid ha5
  have p1 : ∀ (W : World), (PS C b W i nv ns) → W.cell? ⟨b, 1, none⟩ = some (.int .i64 (i : Int)) ∧ W.frozen? ⟨b, 1, none⟩ = false := fun W h => ⟨h.row.box7p.2.1, h.wr.frz 1 (by omega)⟩
  obtain ⟨p_1, pf_1⟩ := p1 w3 P3
  clear p1
  cases a1
  rotate_left
  · -- fun
    rw [if_pos rfl] at h
    obtain ⟨on, hon, h⟩ := Option.bind_eq_some_iff.1 h
    obtain ⟨j1, hj1, h⟩ := Option.bind_eq_some_iff.1 h
    obtain ⟨oa, hoa, h⟩ := Option.bind_eq_some_iff.1 h
    obtain rfl := Option.some.inj h
    dsimp only at hpost
    have hon3 : StrOk on.1 := by
      unfold wordP at hon
      split at hon
      · have := Option.some.inj hon; rw [← this]; exact (tokAt_wf P.ok (i + 1)).2.2.1
      · cases hon
    have cE1 := fun (W : World) nv' (hP : PS C b W on.2 nv' ns) => eat_c hP ⟨#[45, 62]⟩ (by decide) hj1
    replace hpost := Lib.hid hpost; replace hoa := Lib.hid hoa; replace hj1 := Lib.hid hj1; replace cE1 := Lib.hid cE1
    clear h
    obtain ⟨e3_0, e3_1, e3_2, e3_3⟩ := E3.box4; have hsE3 := World.block_lt_of_cell? _ _ e3_0; dsimp only at hsE3
    go_upto_region 11 with fail
    obtain ⟨P4, F4⟩ := step_at P3 hi
    have FF4 := F3.trans F4
    have E4 := E3.pf F4 (by omega) hnt
    clear e3_0 e3_1 e3_2 e3_3 hsE3 p_1 pf_1 E3 P3
    have hz4 := F4.size
    generalize w3.setCell ⟨b, 1, none⟩ (.int .i64 ((i : Int) + 1)) = w4 at *
    have hd4 : Below w4.heap.size w4 w4.drew := (Below.refl _ _).drew
    have cW := fun W (hW : Below w4.heap.size w4 W) => pword_c (P4.below hW) 3 (by decide) on hon
    replace cW := Lib.hid cW; replace hon := Lib.hid hon
    have hbl4 := P4.lt
    obtain ⟨e4_0, e4_1, e4_2, e4_3⟩ := E4.box4; have hsE4 := World.block_lt_of_cell? _ _ e4_0; dsimp only at hsE4
    go_region_held3 (fun w' => w'.cell? ⟨tb, 3, none⟩ = some (.int .i64 a)) (first | exact e4_3 | exact e5_3 | go_keep)
      (first | (go_at_call 138; (with_reducible refine (cW.out _ hd4).mono ?_); rintro e w5 ⟨rfl, P5, F5⟩; have E5 := (E4.below hd4).pf F5 (by omega) hnt; obtain ⟨e5_0, e5_1, e5_2, e5_3⟩ := E5.box4; have hsE5 := World.block_lt_of_cell? _ _ e5_0; dsimp only at hsE5))
    all_goals
      have FF5 := (FF4.near hd4 (by omega)).trans F5
      have hz5 := FF5.size
      have hbl5 := P5.lt
      clear P4 F4 FF4 E4 e4_0 e4_1 e4_2 e4_3 hsE4 cW
      go_upto_region 12 with fail
      obtain ⟨w6, hW6⟩ : ∃ W, W = w5.alloc (.cells #[.int .i64 5, .int .i64 a, .int .i64 0, .string on.1, .slice none 0 0, .slice none 0 0] 167) := ⟨_, rfl⟩
      rw [← hW6]
      have hb6 : Below w5.heap.size w5 w6 := by rw [hW6]; go_grown
      have E6 : RowAt w6 w5.heap.size 0 [.int .i64 5, .int .i64 a, .int .i64 0, .string on.1, .slice none 0 0, .slice none 0 0] := by rw [hW6]; exact RowAt.box w5 #[_, _, _, _, _, _] _
      have E6W : Wr w6 w5.heap.size 0 6 := by rw [hW6]; exact Wr.box w5 #[_, _, _, _, _, _] _
      have hz6 : w5.heap.size < w6.heap.size := by rw [hW6]; simp
      have P6 := P5.below hb6
      have F6 := FF5.near hb6 (by omega)
      have hno : nv.ownBlock ≠ some w5.heap.size := P5.fresh (Nat.le_refl _)
      obtain ⟨qo, hqo⟩ : ∃ x, x = w5.heap.size := ⟨_, rfl⟩
      rw [← hqo] at E6 E6W hz6 hno ⊢
      have hqo1 : w.heap.size ≤ qo := by omega
      clear hW6 hb6 hqo P5 FF5 F5 E5 e5_0 e5_1 e5_2 e5_3 hsE5
      go_upto_region 13 with (go_at_call 137; (with_reducible refine (cE1.out _ _ P6).mono ?_); rintro e w7 ⟨rfl, P7, F7⟩)
      have hz7 := F7.size
      have E7 := E6.pf F7 (by omega) hno
      have E7W := E6W.pf F7 (by omega) hno
      have FF7 := F6.trans F7
      have cX : Calls Tryz.prog 116 #[.pointer (some ⟨b, 0, none⟩), .int .i64 ((deep : Int) + 1)] w7 (EPost C b w7 nv oa) := by have h := G.expr (deep + 1) j1 ns oa w7 nv hoa.out P7; rw [show ((deep + 1 : Nat) : Int) = (deep : Int) + 1 by omega] at h; exact h
      replace cX := Lib.hid cX
      clear P6 F6 F7 E6 E6W cE1 P7
      go_upto_region 14 with (go_at_call 116; (with_reducible refine (cX.out).mono ?_); rintro e w8 ⟨q8, nv8, rfl, P8, F8, T8⟩; have hz8 := F8.size; have hqb : qo ≠ b := (by omega); have E8 := E7.pf F8 hqb hno; have E8W := E7W.pf F8 hqb hno; have e8f_0 := E8W.frz 0 (by omega); have e8f_1 := E8W.frz 1 (by omega); have e8f_2 := E8W.frz 2 (by omega); have e8f_3 := E8W.frz 3 (by omega); have e8f_4 := E8W.frz 4 (by omega); have e8f_5 := E8W.frz 5 (by omega); obtain ⟨e8_0, e8_1, e8_2, e8_3, e8_4, e8_5⟩ := E8.box6; have hsE8 := World.block_lt_of_cell? _ _ e8_0; dsimp only at hsE8)
      have hno8 := F8.nt hno (by omega)
      have hf := fin_fun P8 (FF7.trans F8) hbl hqo1 (Nat.lt_of_lt_of_le hz6 hz7) hz8 hno8 (exw (by omega) hw4 z64 hon3) E8 T8 rfl
      replace hf := Lib.hid hf
      clear P8 F8 T8 E8 E8W FF7 cX E7 E7W
      go_wp2_with fail
      exact hpost.out _ nv8 _ hf.out
  rw [if_neg (by simp)] at h
  cases a2
  rotate_left
  · rw [if_pos rfl] at h; cases h
  rw [if_neg (by simp)] at h
  cases a3
  rotate_left
  · -- if
    rw [if_pos rfl] at h
    obtain ⟨oa, hoa, h⟩ := Option.bind_eq_some_iff.1 h
    obtain ⟨j1, hj1, h⟩ := Option.bind_eq_some_iff.1 h
    obtain ⟨ob, hob, h⟩ := Option.bind_eq_some_iff.1 h
    obtain ⟨j2, hj2, h⟩ := Option.bind_eq_some_iff.1 h
    obtain ⟨oc, hoc, h⟩ := Option.bind_eq_some_iff.1 h
    obtain rfl := Option.some.inj h
    dsimp only at hpost
    have cE1 := fun (W : World) nv' (hP : PS C b W oa.i nv' oa.ns) => eat_c hP ⟨#[116, 104, 101, 110]⟩ (by decide) hj1
    have cE2 := fun (W : World) nv' (hP : PS C b W ob.i nv' ob.ns) => eat_c hP ⟨#[101, 108, 115, 101]⟩ (by decide) hj2
    replace hpost := Lib.hid hpost; replace hoa := Lib.hid hoa; replace hob := Lib.hid hob; replace hoc := Lib.hid hoc; replace hj1 := Lib.hid hj1; replace hj2 := Lib.hid hj2; replace cE1 := Lib.hid cE1; replace cE2 := Lib.hid cE2
    clear h
    obtain ⟨e3_0, e3_1, e3_2, e3_3⟩ := E3.box4; have hsE3 := World.block_lt_of_cell? _ _ e3_0; dsimp only at hsE3
    go_upto_region 20 with fail
    obtain ⟨P4, F4⟩ := step_at P3 hi
    have FF4 := F3.trans F4
    have E4 := E3.pf F4 (by omega) hnt
    clear e3_0 e3_1 e3_2 e3_3 hsE3 p_1 pf_1 E3 P3
    have hz4 := F4.size
    generalize w3.setCell ⟨b, 1, none⟩ (.int .i64 ((i : Int) + 1)) = w4 at *
    have cX : Calls Tryz.prog 116 #[.pointer (some ⟨b, 0, none⟩), .int .i64 ((deep : Int) + 1)] w4 (EPost C b w4 nv oa) := by have h := G.expr (deep + 1) (i + 1) ns oa w4 nv hoa.out P4; rw [show ((deep + 1 : Nat) : Int) = (deep : Int) + 1 by omega] at h; exact h
    replace cX := Lib.hid cX
    go_upto_region 22 with (first
      | (go_at_call 116; (with_reducible refine (cX.out).mono ?_); rintro e w5 ⟨q5, nv5, rfl, P5, F5, T5⟩)
      | (go_at_call 137; (with_reducible refine (cE1.out _ _ P5).mono ?_); rintro e w6 ⟨rfl, P6, F6⟩))
    have hz5 := F5.size
    have hz6 := F6.size
    have hnt5 := F5.nt hnt (by omega)
    have E6 := (E4.pf F5 (by omega) hnt).pf F6 (by omega) hnt5
    have FF6 := (FF4.trans F5).trans F6
    have T6 := (T5.lower FF4.size).step F6 (by omega)
    have cY : Calls Tryz.prog 116 #[.pointer (some ⟨b, 0, none⟩), .int .i64 ((deep : Int) + 1)] w6 (EPost C b w6 nv5 ob) := by have h := G.expr (deep + 1) j1 oa.ns ob w6 nv5 hob.out P6; rw [show ((deep + 1 : Nat) : Int) = (deep : Int) + 1 by omega] at h; exact h
    replace cY := Lib.hid cY
    clear cX P4 P5 F4 F5 F6 T5 E4 FF4 P6 cE1
    go_upto_region 24 with (first
      | (go_at_call 116; (with_reducible refine (cY.out).mono ?_); rintro e w7 ⟨q7, nv7, rfl, P7, F7, T7⟩)
      | (go_at_call 137; (with_reducible refine (cE2.out _ _ P7).mono ?_); rintro e w8 ⟨rfl, P8, F8⟩))
    have hz7 := F7.size
    have hz8 := F8.size
    have hnt7 := F7.nt hnt5 (by omega)
    have E8 := (E6.pf F7 (by omega) hnt5).pf F8 (by omega) hnt7
    have FF8 := (FF6.trans F7).trans F8
    have T8a := (T6.step F7 (by omega)).step F8 (by omega)
    have T8b := (T7.lower FF6.size).step F8 (by omega)
    have hbl8 := P8.lt
    have cZ : ∀ W (hW : Below w8.heap.size w8 W), Calls Tryz.prog 116 #[.pointer (some ⟨b, 0, none⟩), .int .i64 ((deep : Int) + 1)] W (EPost C b W nv7 oc) := fun W hW => by have h := G.expr (deep + 1) j2 ob.ns oc W nv7 hoc.out (P8.below hW); rw [show ((deep + 1 : Nat) : Int) = (deep : Int) + 1 by omega] at h; exact h
    replace cZ := Lib.hid cZ
    clear cY P7 F7 F8 T7 T6 E6 FF6 cE2
    have hwr : IntKind.i64.wrap ((deep : Int) + 1) = (deep : Int) + 1 := IntWalk.i64_in _ (by omega)
    have hd8 : Below w8.heap.size w8 w8.drew := (Below.refl _ _).drew
    obtain ⟨e8_0, e8_1, e8_2, e8_3⟩ := E8.box4; have hsE8 := World.block_lt_of_cell? _ _ e8_0; dsimp only at hsE8
    go_region_held3 (fun w' => w'.cell? ⟨tb, 3, none⟩ = some (.int .i64 a)) (first | exact e8_3 | exact e9_3 | go_keep)
      (first | (go_at_call 116; (with_reducible refine (cZ.out _ hd8).mono ?_); rintro e w9 ⟨q9, nv9, rfl, P9, F9, T9⟩; have E9 := (E8.below hd8).pf F9 (by omega) hnt7; obtain ⟨e9_0, e9_1, e9_2, e9_3⟩ := E9.box4; have hsE9 := World.block_lt_of_cell? _ _ e9_0; dsimp only at hsE9))
    all_goals
      have FF9 := (FF8.near hd8 (by omega)).trans F9
      have T9' := T9.lower (FF8.near hd8 (by omega)).size
      have T9a := (T8a.below hd8).step F9 (by omega)
      have T9b := (T8b.below hd8).step F9 (by omega)
      have hf := fin_node P9 FF9 (kd := 9) (at_ := a) (nn := 0) (s := bs []) (n := 3) (exw (by omega) hw4 z64 bs_ok) rfl rfl (by omega) (hk3 T9a T9b T9') rfl
      replace hf := Lib.hid hf
      clear T9' T9a T9b T8a T8b FF9 F9 P9 P8 cZ
      go_wp2_with fail
      exact hpost.out _ nv9 _ hf.out
  rw [if_neg (by simp)] at h
  cases a4
  rotate_left
  · -- match
    rw [if_pos rfl] at h
    obtain ⟨e3_0, e3_1, e3_2, e3_3⟩ := E3.box4; have hsE3 := World.block_lt_of_cell? _ _ e3_0; dsimp only at hsE3
    go_upto_region 27 with fail
    obtain ⟨P4, F4⟩ := step_at P3 hi
    have FF4 := F3.trans F4
    have E4 := E3.pf F4 (by omega) hnt
    clear e3_0 e3_1 e3_2 e3_3 hsE3 p_1 pf_1 E3 P3
    generalize w3.setCell ⟨b, 1, none⟩ (.int .i64 ((i : Int) + 1)) = w4 at *
    obtain ⟨e4_0, e4_1, e4_2, e4_3⟩ := E4.box4; have hsE4 := World.block_lt_of_cell? _ _ e4_0; dsimp only at hsE4
    have cM := G.mtch deep a (i + 1) ns o w4 nv hw4 h P4
    replace cM := Lib.hid cM
    go_wp2_with (go_at_call 144; (with_reducible refine (cM.out).mono ?_); rintro e w5 ⟨q5, nv5, rfl, P5, F5, T5⟩)
    exact hpost.out q5 nv5 _ ⟨P5, FF4.trans F5, T5.lower FF4.size⟩
  rw [if_neg (by simp)] at h
  cases a5
  rotate_left
  · rw [if_pos rfl] at h; cases h
  rw [if_neg (by simp)] at h
  -- what stands alone, or ahead of ;
  obtain ⟨oa, hoa, h⟩ := Option.bind_eq_some_iff.1 h
  have cX := G.set deep i ns oa w3 nv hoa P3
  obtain ⟨ta, ia, nsa⟩ := oa
  dsimp only at h
  obtain ⟨a6, ha6⟩ : ∃ q, eqS (sgn (tokAt C.L C.E ia)) qSemi = q := ⟨_, rfl⟩
  have c6 : ((sgn (tokAt C.L C.E ia)).toList != [59]) = !a6 := (neS_lit qSemi rfl).trans (by rw [ha6])
  have c6e : ((sgn (tokAt C.L C.E ia)).toList == [59]) = a6 := (eqS_lit qSemi rfl).trans ha6
  have hsf := fun (W : World) nv' (hP : PS C b W ia nv' nsa) => sign_c hP
  have hef : a6 = true → eatP C.L C.E ia qSemi = some (ia + 1) := fun h => eat_is (ha6.trans h)
  have hwa := fun (W : World) (hP : C.Ok b W) => (tokAt_wf hP ia).2.2.2
  rw [ha6] at h
  generalize sgn (tokAt C.L C.E ia) = sg6 at *
  replace cX := Lib.hid cX; replace hsf := Lib.hid hsf; replace ha6 := Lib.hid ha6; replace hoa := Lib.hid hoa; replace hwa := Lib.hid hwa
  cases a6
  · replace c6 : (sg6.toList != [59]) = true := c6
    rw [if_neg (by simp)] at h
    obtain rfl := Option.some.inj h
    clear h hef
    go_wp2_with (first
      | (go_at_call 145; (with_reducible refine (cX.out).mono ?_); rintro e w4 ⟨q4, nv4, rfl, P4, F4, T4⟩; dsimp only at P4 T4)
      | (go_at_call 135; (with_reducible refine (hsf.out _ _ P4).mono ?_); rintro e w5 ⟨rfl, hb5⟩))
    have hbl4 := P4.lt
    exact hpost.out q4 nv4 _ ⟨P4.below hb5, (F3.trans F4).near hb5 (by omega), (T4.lower F3.size).below hb5⟩
  · replace c6 : (sg6.toList != [59]) = false := c6
    rw [if_pos rfl] at h
    obtain ⟨ob, hob, h⟩ := Option.bind_eq_some_iff.1 h
    obtain rfl := Option.some.inj h
    obtain ⟨tb2, ib, nsb⟩ := ob
    dsimp only at hpost
    have hej := hef rfl
    have cEt := fun (W : World) nv' (hP : PS C b W ia nv' nsa) => eat_c hP ⟨#[59]⟩ (by decide) hej
    replace hpost := Lib.hid hpost; replace hob := Lib.hid hob; replace cEt := Lib.hid cEt
    clear h hef
    go_upto_region 41 with (first
      | (go_at_call 145; (with_reducible refine (cX.out).mono ?_); rintro e w4 ⟨q4, nv4, rfl, P4, F4, T4⟩; dsimp only at P4 T4)
      | (go_at_call 135; (with_reducible refine (hsf.out _ _ P4).mono ?_); rintro e w5 ⟨rfl, hb5⟩)
      | (go_at_call 137; (with_reducible refine (cEt.out _ _ (P4.below hb5)).mono ?_); rintro e w6 ⟨rfl, P6, F6⟩))
    have hbl4 := P4.lt
    have hz5 := hb5.size
    have FF6 := ((F3.trans F4).near hb5 (by omega)).trans F6
    have h4z := F4.size
    have T6 := ((T4.lower F3.size).below hb5).step F6 (by omega)
    have hat := hwa.out w6 P6.ok
    generalize (tokAt C.L C.E ia).at_ = at1 at *
    have cY := G.expr (deep + 1) (ia + 1) nsa _ w6 nv4 hob.out P6
    rw [show ((deep + 1 : Nat) : Int) = (deep : Int) + 1 by omega] at cY
    replace cY := Lib.hid cY
    clear cX hsf P4 F4 T4 F6 hwa cEt
    go_wp2_with (go_at_call 116; (with_reducible refine (cY.out).mono ?_); rintro e w7 ⟨q7, nv7, rfl, P7, F7, T7⟩; dsimp only at P7 T7)
    have hf := fin_node P7 (FF6.trans F7) (kd := 19) (at_ := at1) (nn := 0) (s := bs []) (n := 2) (exw (by omega) hat z64 bs_ok) rfl rfl (by omega) (hk2 (T6.step F7 (by omega)) (T7.lower FF6.size)) rfl
    exact hpost.out _ nv7 _ hf
end Go.Proofs.YtaimekaagmcmnaaGreat
