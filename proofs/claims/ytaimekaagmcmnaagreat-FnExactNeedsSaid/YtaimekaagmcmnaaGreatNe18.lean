/- Parts of the proof, merged: Pr10, Pr11. -/
import Derived.Test.YtaimekaagmcmnaaGreatNe17
/- The program's parser: patterns. -/
namespace Go.Proofs.YtaimekaagmcmnaaGreat
open Go.RowKit
set_option linter.unusedVariables false
set_option linter.unusedSimpArgs false
attribute [local go_sem] Ext.cell

theorem ppost_out {C : PC} {b : Nat} {w : World} {nv : Value} {o : POut PxT} {Q : Ending → World → Prop} (h : PPost C b w nv o = Q) : ∀ q nv' W, PS C b W o.i nv' o.ns ∧ PF b w nv W nv' ∧ TP w.heap.size nv' W (.pointer (some ⟨q, 0, none⟩)) o.t → Q (.returned (.pointer (some ⟨q, 0, none⟩))) W := fun q nv' W h1 => by rw [← h]; exact ⟨q, nv', rfl, h1⟩
theorem fin_leafP {C : PC} {b i : Nat} {w w4 W : World} {nv nv' : Value} {ns : List ByteArray} (P : PS C b w4 i nv' ns) (F : PF b w nv w4 nv') {kd nn : Int} {s : ByteArray} (hwf : (PxT.mk kd nn s []).wf)
    (hW : W = w4.alloc (.cells #[.int .i64 kd, .int .i64 nn, .string s, .slice none 0 0] 221)) :
    PS C b W i nv' ns ∧ PF b w nv W nv' ∧ TP w.heap.size nv' W (.pointer (some ⟨w4.heap.size, 0, none⟩)) (.mk kd nn s []) := by
  subst hW
  have hb : Below w4.heap.size w4 (w4.alloc (.cells #[.int .i64 kd, .int .i64 nn, .string s, .slice none 0 0] 221)) := by go_grown
  exact ⟨P.below hb, F.trans (PF.of nv' hb (Nat.le_of_lt P.lt)), TP.leaf ⟨F.size, P.fresh (Nat.le_refl _)⟩ hwf (RowAt.box w4 #[_, _, _, _] _)⟩
theorem fin_nodeP {C : PC} {b i n : Nat} {w w4 W : World} {nv nv' : Value} {ns : List ByteArray} (P : PS C b w4 i nv' ns) (F : PF b w nv w4 nv') {kd nn : Int} {s : ByteArray} {vs : List Value} {ts : List PxT} (hwf : (PxT.mk kd nn s ts).wf)
    (hn : n = ts.length) (hl : vs.length = ts.length) (hm : n ≤ 100) (hk : ∀ (i : Nat) p t, vs[i]? = some p → ts[i]? = some t → TP w.heap.size nv' w4 p t)
    (hW : W = (w4.alloc (.cells vs.toArray 206)).alloc (.cells #[.int .i64 kd, .int .i64 nn, .string s, .slice (some ⟨w4.heap.size, 0, none⟩) n n] 221)) :
    PS C b W i nv' ns ∧ PF b w nv W nv' ∧ TP w.heap.size nv' W (.pointer (some ⟨w4.heap.size + 1, 0, none⟩)) (.mk kd nn s ts) := by
  subst hn
  have h1 := RowAt.box w4 vs.toArray 206
  have h2 := RowAt.box (w4.alloc (.cells vs.toArray 206)) #[.int .i64 kd, .int .i64 nn, .string s, .slice (some ⟨w4.heap.size, 0, none⟩) ts.length ts.length] 221
  simp only [World.size_alloc] at h2
  rw [← hW] at h2
  have hb2 : Below (w4.alloc (.cells vs.toArray 206)).heap.size (w4.alloc (.cells vs.toArray 206)) W := by rw [hW]; go_grown
  have h1' := h1.below hb2
  have hb : Below w4.heap.size w4 W := by rw [hW]; go_grown
  exact ⟨P.below hb, F.trans (PF.of nv' hb (Nat.le_of_lt P.lt)), TP.node ⟨Nat.le_trans F.size (Nat.le_succ _), P.fresh (Nat.le_succ _)⟩ ⟨F.size, P.fresh (Nat.le_refl _)⟩ hwf h2 (Nat.le_refl _) (by omega) h1' hl fun i p t hp ht => (hk i p t hp ht).below hb⟩
theorem hkp1 {lo : Nat} {nv p1 : Value} {w : World} {t1 : PxT} (h1 : TP lo nv w p1 t1) : ∀ (i : Nat) p t, [p1][i]? = some p → [t1][i]? = some t → TP lo nv w p t := fun i p t hp ht => by
  match i, hp, ht with
  | 0, hp, ht => simp at hp ht; subst hp ht; exact h1
  | i + 1, hp, _ => simp at hp
theorem hkp2 {lo : Nat} {nv p1 p2 : Value} {w : World} {t1 t2 : PxT} (h1 : TP lo nv w p1 t1) (h2 : TP lo nv w p2 t2) : ∀ (i : Nat) p t, [p1, p2][i]? = some p → [t1, t2][i]? = some t → TP lo nv w p t := fun i p t hp ht => by
  match i, hp, ht with
  | 0, hp, ht => simp at hp ht; subst hp ht; exact h1
  | 1, hp, ht => simp at hp ht; subst hp ht; exact h2
  | i + 2, hp, _ => simp at hp
theorem pxw {k n : Int} {s : ByteArray} {ks : List PxT} (h1 : 0 ≤ k ∧ k ≤ 100) (h3 : I64 n) (h4 : StrOk s) : (PxT.mk k n s ks).wf := ⟨⟨by show _ ≤ k; omega, by show k ≤ _; omega⟩, h3, h4⟩
theorem pat_in {t : GTok} (h : startsPatP t = true) : t.kind ≠ 0 := fun h0 => by
  unfold startsPatP sgn at h
  rw [h0, if_neg (by decide)] at h
  exact absurd h (by decide)

set_option maxRecDepth 100000 in
set_option maxHeartbeats 16000000 in
theorem patParens_g {C : PC} {b : Nat} {R : PFs} (G : Good C b R) : QC C b 185 (patParensB C.L C.E R) := by
  intro deep i ns o w nv h P
  unfold patParensB at h
  generalize hQ : PPost C b w nv o = Q
  have hpost := ppost_out hQ
  clear hQ
  have hlen := P.ok.len
  have hbl := P.lt
  have cS := sign_c P
  obtain ⟨a1, ha1⟩ : ∃ q, eqS (sgn (tokAt C.L C.E i)) qClose = q := ⟨_, rfl⟩
  have c1 : ((sgn (tokAt C.L C.E i)).toList == [41]) = a1 := (eqS_lit qClose rfl).trans ha1
  have hin1 : a1 = true → i < C.L.length := fun h => (sgn_in (ha1.trans h) (by decide)).1
  rw [ha1] at h
  generalize sgn (tokAt C.L C.E i) = sg at *
  replace cS := Lib.hid cS; replace ha1 := Lib.hid ha1; replace hpost := Lib.hid hpost
  go_enter Tryz.func185, Tryz.ntmps185
  cases a1
  rotate_left
  · rw [if_pos rfl] at h
    obtain rfl := Option.some.inj h
    have hi := hin1 rfl
    clear hin1 h
    go_upto_region 3 with (go_at_call 135; (with_reducible refine (cS.out).mono ?_); rintro e w1 ⟨rfl, hb1⟩; have P1 := P.below hb1; obtain ⟨p_0, p_1, p_2, p_3, p_4, p_5, p_6⟩ := P1.row.box7p; have pf_1 := P1.wr.frz 1 (by omega); have hbl1 := P1.lt)
    obtain ⟨P2, F2⟩ := step_at P1 hi
    have FF2 := (PF.of nv hb1 (Nat.le_of_lt hbl)).trans F2
    clear p_0 p_1 p_2 p_3 p_4 p_5 p_6 pf_1 P1
    generalize w1.setCell ⟨b, 1, none⟩ (.int .i64 ((i : Int) + 1)) = w2 at *
    have hf := fin_leafP P2 FF2 (kd := 6) (pxw (by omega) z64 bs_ok) rfl
    replace hf := Lib.hid hf
    go_wp2_with fail
    exact hpost.out _ nv _ hf.out
  rw [if_neg (by simp)] at h
  clear hin1
  obtain ⟨oa, hoa, h⟩ := Option.bind_eq_some_iff.1 h
  have hdeep := G.plim _ _ _ _ hoa
  have cX := fun W (hW : Below w.heap.size w W) => G.pat (deep + 1) i ns oa W nv hoa (P.below hW)
  rw [show ((deep + 1 : Nat) : Int) = (deep : Int) + 1 by omega] at cX
  obtain ⟨ta, ia, nsa⟩ := oa
  dsimp only at h
  obtain ⟨a6, ha6⟩ : ∃ q, eqS (sgn (tokAt C.L C.E ia)) qComma = q := ⟨_, rfl⟩
  have c6 : ((sgn (tokAt C.L C.E ia)).toList != [44]) = !a6 := (neS_lit qComma rfl).trans (by rw [ha6])
  have c6e : ((sgn (tokAt C.L C.E ia)).toList == [44]) = a6 := (eqS_lit qComma rfl).trans ha6
  have hin6 : a6 = true → ia < C.L.length := fun h => (sgn_in (ha6.trans h) (by decide)).1
  have hsf := fun (W : World) nv' (hP : PS C b W ia nv' nsa) => sign_c hP
  rw [ha6] at h
  generalize sgn (tokAt C.L C.E ia) = sg6 at *
  replace cX := Lib.hid cX; replace hoa := Lib.hid hoa; replace hsf := Lib.hid hsf; replace ha6 := Lib.hid ha6
  cases a6
  · replace c6 : (sg6.toList != [44]) = true := c6
    rw [if_neg (by simp)] at h
    obtain ⟨j, hj, ho⟩ := Option.map_eq_some_iff.1 h
    subst ho
    have cE := fun (W : World) nv' (hP : PS C b W ia nv' nsa) => eat_c hP ⟨#[41]⟩ (by decide) hj
    replace cE := Lib.hid cE; replace hj := Lib.hid hj
    clear h hin6
    go_wp2_with (first
      | (go_at_call 135; (first | ((with_reducible refine (cS.out).mono ?_); rintro e w1 ⟨rfl, hb1⟩) | ((with_reducible refine (hsf.out _ _ P2).mono ?_); rintro e w3 ⟨rfl, hb3⟩; have P3 := P2.below hb3)))
      | (go_at_call 164; (with_reducible refine (cX.out _ hb1).mono ?_); rintro e w2 ⟨q2, nv2, rfl, P2, F2, T2⟩; dsimp only at P2 T2)
      | (go_at_call 137; (with_reducible refine (cE.out _ _ P3).mono ?_); rintro e w4 ⟨rfl, P4, F4⟩))
    have F1 := PF.of nv hb1 (Nat.le_of_lt hbl)
    have hbl2 := P2.lt
    have hz1 := hb1.size
    exact hpost.out q2 nv2 _ ⟨P4, ((F1.trans F2).near hb3 (by omega)).trans F4, ((T2.lower hz1).below hb3).step F4 (by omega)⟩
  · replace c6 : (sg6.toList != [44]) = false := c6
    rw [if_pos rfl] at h
    obtain ⟨ob, hob, h⟩ := Option.bind_eq_some_iff.1 h
    obtain ⟨j, hj, ho⟩ := Option.map_eq_some_iff.1 h
    subst ho
    obtain ⟨tb2, ib, nsb⟩ := ob
    dsimp only at hj hpost
    have hi6 := hin6 rfl
    clear h hin6
    replace hj := Lib.hid hj; replace hob := Lib.hid hob
    go_upto_region 9 with (first
      | (go_at_call 135; (first | ((with_reducible refine (cS.out).mono ?_); rintro e w1 ⟨rfl, hb1⟩) | ((with_reducible refine (hsf.out _ _ P2).mono ?_); rintro e w3 ⟨rfl, hb3⟩; have P3 := P2.below hb3; obtain ⟨p_0, p_1, p_2, p_3, p_4, p_5, p_6⟩ := P3.row.box7p; have pf_1 := P3.wr.frz 1 (by omega); have hbl3 := P3.lt)))
      | (go_at_call 164; (with_reducible refine (cX.out _ hb1).mono ?_); rintro e w2 ⟨q2, nv2, rfl, P2, F2, T2⟩; dsimp only at P2 T2))
    have F1 := PF.of nv hb1 (Nat.le_of_lt hbl)
    have hbl2 := P2.lt
    have hz1 := hb1.size
    obtain ⟨P4, F4⟩ := step_at P3 hi6
    have FF4 := ((F1.trans F2).near hb3 (by omega)).trans F4
    have T4 := ((T2.lower hz1).below hb3).step F4 (by omega)
    clear p_0 p_1 p_2 p_3 p_4 p_5 p_6 pf_1 P3 P2 F1 F2 T2 F4
    generalize w3.setCell ⟨b, 1, none⟩ (.int .i64 ((ia : Int) + 1)) = w4 at *
    have cY := G.pat (deep + 1) (ia + 1) nsa _ w4 nv2 hob.out P4
    rw [show ((deep + 1 : Nat) : Int) = (deep : Int) + 1 by omega] at cY
    replace cY := Lib.hid cY
    clear cX cS hsf
    go_upto_region 10 with (go_at_call 164; (with_reducible refine (cY.out).mono ?_); rintro e w5 ⟨q5, nv5, rfl, P5, F5, T5⟩; dsimp only at P5 T5)
    have FF5 := FF4.trans F5
    have T4' := T4.step F5 (by omega)
    have T5' := T5.lower FF4.size
    have cE := eat_c P5 ⟨#[41]⟩ (by decide) hj.out
    replace cE := Lib.hid cE
    clear P4 T4 T5 F5 cY
    go_upto_region 11 with (go_at_call 137; (with_reducible refine (cE.out).mono ?_); rintro e w6 ⟨rfl, P6, F6⟩)
    have FF6 := FF5.trans F6
    have hf := fin_nodeP P6 FF6 (kd := 5) (nn := 0) (s := bs []) (n := 2) (pxw (by omega) z64 bs_ok) rfl rfl (by omega) (hkp2 (T4'.step F6 (by omega)) (T5'.step F6 (by omega))) rfl
    replace hf := Lib.hid hf
    clear T4' T5' P5 cE P6 F6 FF5
    go_wp2_with fail
    exact hpost.out _ nv5 _ hf.out

set_option maxRecDepth 100000 in
set_option maxHeartbeats 16000000 in
theorem pat_g {C : PC} {b : Nat} {R : PFs} (G : Good C b R) : QC C b 164 (patB C.L C.E R) := by
  intro deep i ns o w nv h P
  unfold patB at h
  generalize hQ : PPost C b w nv o = Q
  have hpost := ppost_out hQ
  clear hQ
  have hlen := P.ok.len
  have hbl := P.lt
  have cT := tok_c P
  have cA := fun W => startsPat_c (tokAt C.L C.E i) W
  have htw := tokAt_wf P.ok i
  generalize tokAt C.L C.E i = t at *
  obtain ⟨kd, nn, s0, a⟩ := t
  obtain ⟨hw1, hw2, hw3, hw4⟩ := htw
  dsimp only at hw1 hw2 hw3 hw4
  generalize hsa : startsPatP ⟨kd, nn, s0, a⟩ = sa at *
  cases sa
  · rw [if_pos rfl] at h; cases h
  rw [if_neg (by simp)] at h
  split at h
  · cases h
  rename_i hdp
  obtain ⟨oa, hoa, h⟩ := Option.bind_eq_some_iff.1 h
  have cX := fun W (hW : Below w.heap.size w W) => G.patAtom deep i ns oa W nv hoa (P.below hW)
  obtain ⟨ta, ia, nsa⟩ := oa
  dsimp only at h
  obtain ⟨a6, ha6⟩ : ∃ q, eqS (sgn (tokAt C.L C.E ia)) qCons = q := ⟨_, rfl⟩
  have c6 : ((sgn (tokAt C.L C.E ia)).toList != [58, 58]) = !a6 := (neS_lit qCons rfl).trans (by rw [ha6])
  have c6e : ((sgn (tokAt C.L C.E ia)).toList == [58, 58]) = a6 := (eqS_lit qCons rfl).trans ha6
  have hin6 : a6 = true → ia < C.L.length := fun h => (sgn_in (ha6.trans h) (by decide)).1
  have hsf := fun (W : World) nv' (hP : PS C b W ia nv' nsa) => sign_c hP
  rw [ha6] at h
  generalize sgn (tokAt C.L C.E ia) = sg6 at *
  have dd : decide ((100 : Int) < (deep : Int)) = false := decide_eq_false (by omega)
  have dd2 : decide (100 < deep) = false := decide_eq_false (by omega)
  replace cT : Calls Tryz.prog 140 #[.pointer (some ⟨b, 0, none⟩)] w fun e w' => e = .returned (.agg #[.int .i64 kd, .int .i64 nn, .string s0, .int .i64 a]) ∧ Below w.heap.size w w' := cT
  replace cA : ∀ W, Calls Tryz.prog 178 #[.agg #[.int .i64 kd, .int .i64 nn, .string s0, .int .i64 a]] W fun e w' => e = .returned (.bool true) ∧ Below W.heap.size W w' := cA
  replace cT := Lib.hid cT; replace cA := Lib.hid cA; replace hpost := Lib.hid hpost; replace hsa := Lib.hid hsa; replace cX := Lib.hid cX; replace hoa := Lib.hid hoa; replace hsf := Lib.hid hsf; replace ha6 := Lib.hid ha6
  go_enter Tryz.func164, Tryz.ntmps164
  go_upto_region 2 with (go_at_call 140; (with_reducible refine (cT.out).mono ?_); rintro e w1 ⟨rfl, hb1⟩)
  obtain ⟨w2, hW2⟩ : ∃ W, W = w1.alloc (.cells #[.int .i64 kd, .int .i64 nn, .string s0, .int .i64 a] 181) := ⟨_, rfl⟩
  rw [← hW2]
  have hb2 : Below w1.heap.size w1 w2 := by rw [hW2]; go_grown
  have E2 : RowAt w2 w1.heap.size 0 [.int .i64 kd, .int .i64 nn, .string s0, .int .i64 a] := by rw [hW2]; exact RowAt.box w1 #[_, _, _, _] _
  have hz1 := hb1.size
  have hw02 := hb1.trans (hb2.mono hz1)
  obtain ⟨tb, htb⟩ : ∃ x, x = w1.heap.size := ⟨_, rfl⟩
  rw [← htb] at E2 hz1 ⊢
  clear hW2 hb2 hb1 htb
  obtain ⟨e2_0, e2_1, e2_2, e2_3⟩ := E2.box4; have hsE2 := World.block_lt_of_cell? _ _ e2_0; dsimp only at hsE2
  go_upto_region 5 with (go_at_call 178; (with_reducible refine (cA.out _).mono ?_); rintro e w3 ⟨rfl, hb3⟩; have hw03 := hw02.trans (hb3.mono hw02.size); have E3 := E2.below hb3)
  clear e2_0 e2_1 e2_2 e2_3 hsE2 E2
  have hz3 := hw03.size
  have P3 := P.below hw03
  obtain ⟨e3_0, e3_1, e3_2, e3_3⟩ := E3.box4; have hsE3 := World.block_lt_of_cell? _ _ e3_0; dsimp only at hsE3
  obtain ⟨p_0, p_1, p_2, p_3, p_4, p_5, p_6⟩ := P3.row.box7p
  (refine wp_region_ext_lit (by kernel_rfl) (by kernel_rfl) ?_; (repeat (any_goals (first | go_big_quiet_step (fail) | quiet_step (fail) | (refine wpQuiet_step (fun K hK => ?_); go_simp; split <;> (refine hK _ ?_; clear hK K))))); all_goals (refine wpQuiet_nil ?_; rintro wq ⟨⟨_, hbq⟩, rfl⟩))
  have hw0q := hw03.trans (hbq.mono hz3)
  have hzq := hw0q.size
  clear e3_0 e3_1 e3_2 e3_3 hsE3 p_0 p_1 p_2 p_3 p_4 p_5 p_6 P3 hw03 hz3 hbq E3 cT cA hw02
  cases a6
  · replace c6 : (sg6.toList != [58, 58]) = true := c6
    rw [if_neg (by simp)] at h
    obtain rfl := Option.some.inj h
    clear h hin6
    go_wp2_with (first
      | (go_at_call 179; (with_reducible refine (cX.out _ hw0q).mono ?_); rintro e w4 ⟨q4, nv4, rfl, P4, F4, T4⟩; dsimp only at P4 T4)
      | (go_at_call 135; (with_reducible refine (hsf.out _ _ P4).mono ?_); rintro e w5 ⟨rfl, hb5⟩))
    have hbl4 := P4.lt
    exact hpost.out q4 nv4 _ ⟨P4.below hb5, ((PF.of nv hw0q (Nat.le_of_lt hbl)).trans F4).near hb5 (by omega), (T4.lower hzq).below hb5⟩
  · replace c6 : (sg6.toList != [58, 58]) = false := c6
    rw [if_pos rfl] at h
    obtain ⟨ob, hob, h⟩ := Option.bind_eq_some_iff.1 h
    obtain rfl := Option.some.inj h
    obtain ⟨tb2, ib, nsb⟩ := ob
    dsimp only at hpost
    have hi6 := hin6 rfl
    replace hob := Lib.hid hob
    clear h hin6
    go_upto_region 11 with (first
      | (go_at_call 179; (with_reducible refine (cX.out _ hw0q).mono ?_); rintro e w4 ⟨q4, nv4, rfl, P4, F4, T4⟩; dsimp only at P4 T4)
      | (go_at_call 135; (with_reducible refine (hsf.out _ _ P4).mono ?_); rintro e w5 ⟨rfl, hb5⟩; have P5 := P4.below hb5; obtain ⟨p_0, p_1, p_2, p_3, p_4, p_5, p_6⟩ := P5.row.box7p; have pf_1 := P5.wr.frz 1 (by omega); have hbl5 := P5.lt))
    have hbl4 := P4.lt
    have FF5 := ((PF.of nv hw0q (Nat.le_of_lt hbl)).trans F4).near hb5 (by omega)
    have T5 := (T4.lower hzq).below hb5
    go_upto_region 12 with fail
    obtain ⟨P6, F6⟩ := step_at P5 hi6
    have FF6 := FF5.trans F6
    have T6 := T5.step F6 (by omega)
    clear p_0 p_1 p_2 p_3 p_4 p_5 p_6 pf_1 P5 P4 F4 T4 T5 F6 FF5 cX hsf
    generalize w5.setCell ⟨b, 1, none⟩ (.int .i64 ((ia : Int) + 1)) = w6 at *
    have cY := G.pat (deep + 1) (ia + 1) nsa _ w6 nv4 hob.out P6
    rw [show ((deep + 1 : Nat) : Int) = (deep : Int) + 1 by omega] at cY
    replace cY := Lib.hid cY
    go_upto_region 13 with (go_at_call 164; (with_reducible refine (cY.out).mono ?_); rintro e w7 ⟨q7, nv7, rfl, P7, F7, T7⟩; dsimp only at P7 T7)
    have T6' := T6.step F7 (by omega)
    have T7' := T7.lower FF6.size
    obtain ⟨P8, F8, T8⟩ := fin_nodeP P7 (FF6.trans F7) (kd := 5) (nn := 0) (s := bs []) (n := 2) (pxw (by omega) z64 bs_ok) rfl rfl (by omega) (hkp2 T6' T7') rfl
    clear T6 T7 T6' T7' P7 FF6 F7 cY P6
    obtain ⟨W8, hW8⟩ : ∃ W, W = (w7.alloc (.cells [.pointer (some ⟨q4, 0, none⟩), .pointer (some ⟨q7, 0, none⟩)].toArray 206)).alloc (.cells #[.int .i64 5, .int .i64 0, .string (bs []), .slice (some ⟨w7.heap.size, 0, none⟩) 2 2] 221) := ⟨_, rfl⟩
    rw [← hW8] at P8 F8 T8
    have hW8' : W8 = (w7.alloc (.cells #[.pointer (some ⟨q4, 0, none⟩), .pointer (some ⟨q7, 0, none⟩)] 206)).alloc (.cells #[.int .i64 5, .int .i64 0, .string ⟨#[]⟩, .slice (some ⟨w7.heap.size, 0, none⟩) 2 2] 221) := hW8
    have hsz8 : W8.heap.size = w7.heap.size + 1 + 1 := by rw [hW8']; simp
    have hf := fin_nodeP P8 F8 (kd := 4) (nn := 0) (s := qCons) (n := 1) (pxw (by omega) z64 (by unfold StrOk; decide)) rfl rfl (by omega) (hkp1 T8) rfl
    rw [hsz8, hW8'] at hf
    replace hf := Lib.hid hf
    clear P8 F8 T8 hW8 hW8' hsz8
    go_wp2_with fail
    exact hpost.out _ nv7 _ hf.out
end Go.Proofs.YtaimekaagmcmnaaGreat

/- The program's parser: an atom of a pattern. -/
namespace Go.Proofs.YtaimekaagmcmnaaGreat
open Go.RowKit
set_option linter.unusedVariables false
set_option linter.unusedSimpArgs false
attribute [local go_sem] Ext.cell

theorem info_strP : (Tryz.prog.info? 9).map (fun i => (i.zero, i.size, i.bytes)) = some (some (.string ⟨#[]⟩), 1, 16) := by kernel_rfl
theorem names_grow {C : PC} {b i n g cap : Nat} {w w1 w2 : World} {va : Option Addr} {vc : Nat} {ns : List ByteArray} {s : ByteArray} (P : PS C b w i (.slice va n vc) ns) (hn : n = ns.length) (hi : n + 1 ≤ i) (hs : StrOk s)
    (hB : Below w.heap.size w w1) (hgrow : w1.grownBy w2 (Value.slice va n vc).ownBlock) (hown : w2.ownsRow (b + 1) 9 1 (.slice (some ⟨g, 0, none⟩) (n + 1) cap) (n + 1) (rowsOf strRow ns ++ [.string s]))
    (hat : (Value.slice va n vc).ownBlock = some g ∨ g = w1.heap.size) :
    PS C b (w2.setCell ⟨b, 6, none⟩ (.slice (some ⟨g, 0, none⟩) (n + 1) cap)) i (.slice (some ⟨g, 0, none⟩) (n + 1) cap) (ns ++ [s]) ∧ PF b w (.slice va n vc) (w2.setCell ⟨b, 6, none⟩ (.slice (some ⟨g, 0, none⟩) (n + 1) cap)) (.slice (some ⟨g, 0, none⟩) (n + 1) cap) := by
  subst hn
  have hbl := P.lt
  have hob := own_base P.nam.1
  have K6 := kept_of hgrow hB
  have hne : ¬ some b = (Value.slice va ns.length vc).ownBlock := fun e => by have := (hob b e.symm).1; omega
  have hb6 : Below b w w2 := (below_grown2 (wr := w) (base := b + 1) hgrow hB (Below.refl _ w) (by omega) P.nam.1).mono (by omega)
  have hb7 := hb6.setCell (p := ⟨b, 6, none⟩) (Nat.le_refl _) (.slice (some ⟨g, 0, none⟩) (ns.length + 1) cap)
  have hg := (own_base hown g (by simp [Value.ownBlock])).1
  have hsz := hB.size
  refine ⟨⟨P.ok.to hb7, (P.row.kept K6 hne).putAt (j := 6) (by simp) _, (P.wr.kept K6 hne).set 6 _, ?_, P.ile, by rw [List.length_append]; simpa using hi⟩, ⟨hb7, ?_, fun q hq => ?_⟩⟩
  · refine OwnF.kept (S := (· = b)) ⟨?_, fun y hy => ?_⟩ ((Kept.refl (· = b) w2).set (p := ⟨b, 6, none⟩) rfl _) (fun x hx e => ?_)
    · rw [List.length_append, rowsOf_append, rowsOf_one]
      exact hown
    · rcases List.mem_append.1 hy with h | h
      · exact P.nam.2 y h
      · simp only [List.mem_singleton] at h; rw [h]; exact hs
    · obtain rfl : g = x := by simpa [Value.ownBlock] using hx
      omega
  · have K7 : Kept (fun q => q = b ∨ (Value.slice va ns.length vc).ownBlock = some q) w w2 := fun q h1 h2 => K6 q h1 (fun e => h2 (.inr e.symm))
    exact K7.set (p := ⟨b, 6, none⟩) (.inl rfl) _
  · obtain rfl : g = q := by simpa [Value.ownBlock] using hq
    rcases hat with h | h
    · exact .inl h
    · exact .inr (by omega)

set_option maxRecDepth 100000 in
set_option maxHeartbeats 16000000 in
theorem patAtom_g {C : PC} {b : Nat} {R : PFs} (G : Good C b R) : QC C b 179 (patAtomB C.L C.E R) := by
  intro deep i ns o w nv h P
  generalize hQ : PPost C b w nv o = Q
  have hpost := ppost_out hQ
  clear hQ
  have cT := tok_c P
  have cA := fun W => startsPat_c (tokAt C.L C.E i) W
  have htw := tokAt_wf P.ok i
  unfold patAtomB at h
  have hin := fun h => tokAt_kind (L := C.L) (E := C.E) (i := i) (pat_in h)
  generalize tokAt C.L C.E i = t at *
  have hk06 : startsPatP t = true → t.kind = 3 ∨ t.kind = 1 ∨ t.kind = 4 ∨ t.kind = 6 := fun hs => by
    unfold startsPatP sgn at hs
    by_cases h6 : t.kind = 6
    · omega
    · rw [if_neg h6, show anyS patSigns (bs []) = false from by decide, Bool.or_false] at hs
      have := of_decide_eq_true hs
      omega
  obtain ⟨kd, nn, s0, a⟩ := t
  dsimp only at h hk06
  obtain ⟨hw1, hw2, hw3, hw4⟩ := htw
  dsimp only at hw1 hw2 hw3 hw4
  generalize hsa : startsPatP ⟨kd, nn, s0, a⟩ = sa at *
  cases sa
  · rw [if_pos rfl] at h; cases h
  rw [if_neg (by simp)] at h
  have hi := hin rfl
  have hkd := hk06 rfl
  replace cT : Calls Tryz.prog 140 #[.pointer (some ⟨b, 0, none⟩)] w fun e w' => e = .returned (.agg #[.int .i64 kd, .int .i64 nn, .string s0, .int .i64 a]) ∧ Below w.heap.size w w' := cT
  replace cA : ∀ W, Calls Tryz.prog 178 #[.agg #[.int .i64 kd, .int .i64 nn, .string s0, .int .i64 a]] W fun e w' => e = .returned (.bool true) ∧ Below W.heap.size W w' := cA
  have hlen := P.ok.len
  have hbl := P.lt
  clear hin hk06
  obtain ⟨n, hn⟩ : ∃ n, n = ns.length := ⟨_, rfl⟩
  obtain ⟨va, vc, hv⟩ := P.nam.form
  rw [← hn] at hv
  subst hv
  have hnle := P.nle
  rw [← hn] at hnle
  have cN := fun W (hW : Below w.heap.size w W) => containsS_c ns s0 _ _ _ ((P.nam.below hW).sl flatStr)
  rw [show (ns.any fun y => s0.toList == y.toList) = anyS ns s0 from anyS_list ns s0] at cN
  obtain ⟨an, han⟩ : ∃ q, anyS ns s0 = q := ⟨_, rfl⟩
  rw [han] at h cN
  replace cT := Lib.hid cT; replace cA := Lib.hid cA; replace hpost := Lib.hid hpost; replace hsa := Lib.hid hsa; replace hn := Lib.hid hn; replace han := Lib.hid han
  go_enter Tryz.func179, Tryz.ntmps179
  go_upto_region 2 with (go_at_call 140; (with_reducible refine (cT.out).mono ?_); rintro e w1 ⟨rfl, hb1⟩)
  obtain ⟨w2, hW2⟩ : ∃ W, W = w1.alloc (.cells #[.int .i64 kd, .int .i64 nn, .string s0, .int .i64 a] 181) := ⟨_, rfl⟩
  rw [← hW2]
  have hb2 : Below w1.heap.size w1 w2 := by rw [hW2]; go_grown
  have E2 : RowAt w2 w1.heap.size 0 [.int .i64 kd, .int .i64 nn, .string s0, .int .i64 a] := by rw [hW2]; exact RowAt.box w1 #[_, _, _, _] _
  have hz1 := hb1.size
  have hz2 : w1.heap.size < w2.heap.size := by rw [hW2]; simp
  have hw02 := hb1.trans (hb2.mono hz1)
  have P2 := P.below hw02
  obtain ⟨tb, htb⟩ : ∃ x, x = w1.heap.size := ⟨_, rfl⟩
  rw [← htb] at E2 hz1 hz2 ⊢
  clear hW2 hb2 hb1 htb
  have hnt : (Value.slice va n vc).ownBlock ≠ some tb := P.fresh hz1
  have cN2 := fun W (hW : Below w2.heap.size w2 W) => cN W (hw02.trans (hW.mono hw02.size))
  clear cN
  have cN := Lib.hid cN2
  clear cN2
  obtain ⟨e2_0, e2_1, e2_2, e2_3⟩ := E2.box4; have hsE2 := World.block_lt_of_cell? _ _ e2_0; dsimp only at hsE2
  obtain ⟨p_0, p_1, p_2, p_3, p_4, p_5, p_6⟩ := P2.row.box7p
  have hbl2 := P2.lt
  by_cases k3 : kd = 3
  · subst k3
    rw [if_pos rfl] at h
    cases an
    rotate_left
    · rw [if_pos rfl] at h; cases h
    rw [if_neg (by simp)] at h
    obtain rfl := Option.some.inj h
    (refine wp_region_ext_lit (by kernel_rfl) (by kernel_rfl) ?_; (repeat (any_goals (first | go_big_quiet_step ((first | (go_at_call 178; with_reducible exact Calls.ext (cA.out _)) | (go_at_call 50; with_reducible exact Calls.ext (cN.out _ (Subtype.property _))))) | quiet_step ((first | (go_at_call 178; with_reducible exact Calls.ext (cA.out _)) | (go_at_call 50; with_reducible exact Calls.ext (cN.out _ (Subtype.property _))))) | (refine wpQuiet_step (fun K hK => ?_); go_simp; split <;> (refine hK _ ?_; clear hK K))))); all_goals (refine wpQuiet_nil ?_; rintro wq ⟨⟨_, hbq⟩, rfl⟩))
    have hw0q := hw02.trans (hbq.mono hw02.size)
    have Pq := P2.below hbq
    have Eq := E2.below hbq
    clear e2_0 e2_1 e2_2 e2_3 hsE2 p_0 p_1 p_2 p_3 p_4 p_5 p_6 P2 E2 hw02 hbq cA cN cT h
    obtain ⟨eq_0, eq_1, eq_2, eq_3⟩ := Eq.box4; have hsEq := World.block_lt_of_cell? _ _ eq_0; dsimp only at hsEq
    obtain ⟨p_0, p_1, p_2, p_3, p_4, p_5, p_6⟩ := Pq.row.box7p
    have pf_1 := Pq.wr.frz 1 (by omega)
    have hblq := Pq.lt
    go_upto_region 9 with fail
    obtain ⟨P4, F4⟩ := step_at Pq hi
    have FF4 := (PF.of _ hw0q (Nat.le_of_lt hbl)).trans F4
    have E4 := Eq.pf F4 (by omega) hnt
    clear eq_0 eq_1 eq_2 eq_3 hsEq p_0 p_1 p_2 p_3 p_4 p_5 p_6 pf_1 Pq Eq F4
    generalize wq.setCell ⟨b, 1, none⟩ (.int .i64 ((i : Int) + 1)) = w4 at *
    have hbl4 := P4.lt
    obtain ⟨e4_0, e4_1, e4_2, e4_3⟩ := E4.box4; have hsE4 := World.block_lt_of_cell? _ _ e4_0; dsimp only at hsE4
    have hsz4 := FF4.size
    obtain ⟨p_0, p_1, p_2, p_3, p_4, p_5, p_6⟩ := P4.row.box7p
    have pf_6 := P4.wr.frz 6 (by omega)
    obtain ⟨iD, hi0, hz0, hz1, hz2⟩ := info_parts info_strP; have ID := Lib.hid hi0; have ID0 := Lib.hid hz0; have ID1 := Lib.hid hz1; have ID2 := Lib.hid hz2; clear hi0 hz0 hz1 hz2
    have hown0 : w4.ownsRow (b + 1) 9 1 (.slice va n vc) n (rowsOf strRow ns) := by have h := P4.nam.1; rw [← hn.out] at h; exact h
    have hne2 : ∀ q, (Value.slice va n vc).ownBlock = some q → b + 1 ≤ q := fun q hq => (own_base hown0 q hq).1
    have hex : ∀ (w1 w2 : World) g cap, Below w4.heap.size w4 w1 → w1.grownBy w2 (Value.slice va n vc).ownBlock → w2.ownsRow (b + 1) 9 1 (.slice (some ⟨g, 0, none⟩) (n + 1) cap) (n + 1) (rowsOf strRow ns ++ [.string s0]) → ((Value.slice va n vc).ownBlock = some g ∨ g = w1.heap.size) →
        PS C b (w2.setCell ⟨b, 6, none⟩ (.slice (some ⟨g, 0, none⟩) (n + 1) cap)) (i + 1) (.slice (some ⟨g, 0, none⟩) (n + 1) cap) (ns ++ [s0]) ∧ PF b w4 (.slice va n vc) (w2.setCell ⟨b, 6, none⟩ (.slice (some ⟨g, 0, none⟩) (n + 1) cap)) (.slice (some ⟨g, 0, none⟩) (n + 1) cap) := fun w1 w2 g cap hB h1 h2 h3 => names_grow P4 hn.out (by omega) hw3 hB h1 h2 h3
    replace hown0 := Lib.hid hown0; replace hne2 := Lib.hid hne2; replace hex := Lib.hid hex
    go_upto_region 11 with fail
    go_region_law ((refine step_append_lies _ (by rfl) _ _ _ (by rfl) (b + 1) 9 iD _ 1 16 Tryz.underlying27 ID.out ID0.out ID1.out ID2.out rfl (by omega) _ (n) (rowsOf strRow ns) (by rfl) (own_below hown0.out (by go_grown)) ⟨w4.heap.size, 0, none⟩ 1 1 [.string s0] (by rfl) (by rfl) (World.news_of_block (cs := #[.string s0]) (t := 9) (fr := (0, 0)) (heap_alloc_new' _ _ _ (by simp))) (by intro u hu; simp at hu; (first | (subst hu; rfl) | (rcases hu with rfl | rfl | rfl | rfl <;> rfl) | (rcases hu with rfl | rfl | rfl | rfl | rfl | rfl <;> rfl) | (rcases hu with rfl | rfl | rfl | rfl | rfl | rfl | rfl <;> rfl))) (by omega) (by unfold maxLen; omega) (by omega) (by simp; omega) _ rfl ?_; intro g2 cap2 w6 hown hgrow hat hlt2); have hx := hex.out _ _ _ _ (by go_grown) hgrow hown hat; have k6 := kept_of hgrow (w := w4) (by go_grown); obtain ⟨m_0, m_1, m_2, m_3, m_4, m_5, m_6⟩ := (P4.row.kept k6 (fun e => by have := hne2.out _ e.symm; omega)).box7p; have mf_6 := (P4.wr.kept k6 (fun e => by have := hne2.out _ e.symm; omega)).frz 6 (by omega); have mbl := World.block_lt_of_cell? _ _ m_0; dsimp only at mbl)
    all_goals
      obtain ⟨P7, F7⟩ := hx
      have E7 := E4.pf F7 (by omega) hnt
      have FF7 := FF4.trans F7
      clear hown hgrow hat hlt2 k6 m_0 m_1 m_2 m_3 m_4 m_5 m_6 mf_6 mbl e4_0 e4_1 e4_2 e4_3 hsE4 p_0 p_1 p_2 p_3 p_4 p_5 p_6 pf_6 P4 E4 hex hown0 hne2
      generalize w6.setCell ⟨b, 6, none⟩ (.slice (some ⟨g2, 0, none⟩) (n + 1) cap2) = w7 at *
      obtain ⟨e7_0, e7_1, e7_2, e7_3⟩ := E7.box4; have hsE7 := World.block_lt_of_cell? _ _ e7_0; dsimp only at hsE7
      have hf := fin_leafP P7 FF7 (kd := 2) (pxw (by omega) z64 hw3) rfl
      replace hf := Lib.hid hf
      clear P7 F7 E7
      go_wp2_with fail
      exact hpost.out _ _ _ hf.out
  have d3 : (kd == 3) = false := beq_eq_false_iff_ne.2 k3
  rw [if_neg k3] at h
  (refine wp_region_ext_lit (by kernel_rfl) (by kernel_rfl) ?_; (repeat (any_goals (first | go_big_quiet_step ((first | (go_at_call 178; with_reducible exact Calls.ext (cA.out _)) | (go_at_call 50; with_reducible exact Calls.ext (cN.out _ (Subtype.property _))))) | quiet_step ((first | (go_at_call 178; with_reducible exact Calls.ext (cA.out _)) | (go_at_call 50; with_reducible exact Calls.ext (cN.out _ (Subtype.property _))))) | (refine wpQuiet_step (fun K hK => ?_); go_simp; split <;> (refine hK _ ?_; clear hK K))))); all_goals (refine wpQuiet_nil ?_; rintro wq ⟨⟨_, hbq⟩, rfl⟩))
  have hw0q := hw02.trans (hbq.mono hw02.size)
  have Pq := P2.below hbq
  have Eq := E2.below hbq
  clear e2_0 e2_1 e2_2 e2_3 hsE2 p_0 p_1 p_2 p_3 p_4 p_5 p_6 P2 E2 hw02 hbq cA cN cT
  obtain ⟨eq_0, eq_1, eq_2, eq_3⟩ := Eq.box4; have hsEq := World.block_lt_of_cell? _ _ eq_0; dsimp only at hsEq
  obtain ⟨p_0, p_1, p_2, p_3, p_4, p_5, p_6⟩ := Pq.row.box7p
  have pf_1 := Pq.wr.frz 1 (by omega)
  have hblq := Pq.lt
  go_upto_region 9 with fail
  obtain ⟨P4, F4⟩ := step_at Pq hi
  have FF4 := (PF.of _ hw0q (Nat.le_of_lt hbl)).trans F4
  have E4 := Eq.pf F4 (by omega) hnt
  clear eq_0 eq_1 eq_2 eq_3 hsEq p_0 p_1 p_2 p_3 p_4 p_5 p_6 pf_1 Pq Eq F4
  generalize wq.setCell ⟨b, 1, none⟩ (.int .i64 ((i : Int) + 1)) = w4 at *
  have hbl4 := P4.lt
  obtain ⟨e4_0, e4_1, e4_2, e4_3⟩ := E4.box4; have hsE4 := World.block_lt_of_cell? _ _ e4_0; dsimp only at hsE4
  by_cases k1 : kd = 1
  · subst k1
    rw [if_pos rfl] at h
    obtain rfl := Option.some.inj h
    have hf := fin_leafP P4 FF4 (kd := 3) (pxw (by omega) hw2 bs_ok) rfl
    replace hf := Lib.hid hf
    go_wp2_with fail
    exact hpost.out _ _ _ hf.out
  rw [if_neg k1] at h
  have d1 : (kd == 1) = false := beq_eq_false_iff_ne.2 k1
  by_cases k4 : kd = 4
  · rw [if_pos k4] at h; cases h
  rw [if_neg k4] at h
  have d4 : (kd == 4) = false := beq_eq_false_iff_ne.2 k4
  obtain rfl : kd = 6 := by omega
  obtain ⟨a1, ha1⟩ : ∃ q, eqS s0 qUnder = q := ⟨_, rfl⟩
  have c1 : (s0.toList == [95]) = a1 := (eqS_lit qUnder rfl).trans ha1
  obtain ⟨a2, ha2⟩ : ∃ q, eqS s0 qMinus = q := ⟨_, rfl⟩
  have c2 : (s0.toList == [45]) = a2 := (eqS_lit qMinus rfl).trans ha2
  obtain ⟨a3, ha3⟩ : ∃ q, eqS s0 qOpenB = q := ⟨_, rfl⟩
  have c3 : (s0.toList == [91]) = a3 := (eqS_lit qOpenB rfl).trans ha3
  obtain ⟨a4, ha4⟩ : ∃ q, eqS s0 qOpen = q := ⟨_, rfl⟩
  have c4 : (s0.toList == [40]) = a4 := (eqS_lit qOpen rfl).trans ha4
  rw [ha1, ha2, ha3, ha4] at h
  replace ha1 := Lib.hid ha1; replace ha2 := Lib.hid ha2; replace ha3 := Lib.hid ha3; replace ha4 := Lib.hid ha4
  cases a1
  rotate_left
  · rw [if_pos rfl] at h
    obtain rfl := Option.some.inj h
    have hf := fin_leafP P4 FF4 (kd := 1) (pxw (by omega) z64 bs_ok) rfl
    replace hf := Lib.hid hf
    go_wp2_with fail
    exact hpost.out _ _ _ hf.out
  rw [if_neg (by simp)] at h
  cases a2
  rotate_left
  · rw [if_pos rfl] at h; cases h
  rw [if_neg (by simp)] at h
  cases a3
  rotate_left
  · rw [if_pos rfl] at h
    obtain ⟨j, hj, ho⟩ := Option.map_eq_some_iff.1 h
    subst ho
    have cE := eat_c P4 ⟨#[93]⟩ (by decide) hj
    replace cE := Lib.hid cE; replace hj := Lib.hid hj
    clear h
    go_upto_region 29 with (go_at_call 137; (with_reducible refine (cE.out).mono ?_); rintro e w5 ⟨rfl, P5, F5⟩)
    have hf := fin_leafP P5 (FF4.trans F5) (kd := 4) (pxw (by omega) z64 (show StrOk qNil by unfold StrOk; decide)) rfl
    replace hf := Lib.hid hf
    clear P5 F5 cE
    go_wp2_with fail
    exact hpost.out _ _ _ hf.out
  rw [if_neg (by simp)] at h
  cases a4
  rotate_left
  · rw [if_pos rfl] at h
    have cX := patParens_g G deep (i + 1) ns o w4 _ h P4
    replace cX := Lib.hid cX
    go_wp2_with (go_at_call 185; (with_reducible refine (cX.out).mono ?_); rintro e w5 ⟨q5, nv5, rfl, P5, F5, T5⟩)
    exact hpost.out q5 nv5 _ ⟨P5, FF4.trans F5, T5.lower FF4.size⟩
  rw [if_neg (by simp)] at h
  obtain rfl := Option.some.inj h
  have hf := fin_leafP P4 FF4 (kd := 4) (pxw (by omega) z64 hw3) rfl
  replace hf := Lib.hid hf
  go_wp2_with fail
  exact hpost.out _ _ _ hf.out
end Go.Proofs.YtaimekaagmcmnaaGreat
