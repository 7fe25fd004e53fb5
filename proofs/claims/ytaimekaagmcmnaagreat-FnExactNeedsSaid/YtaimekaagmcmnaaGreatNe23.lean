/- Parts of the proof, merged: Pr4, Pr15, TooMany, Num, Num2. -/
import Derived.Deep.RegionHeld3
import Derived.Laws.IdiomStrings
import Derived.RegionTactic
import Derived.Deep.LoopGhost
import Derived.Test.YtaimekaagmcmnaaGreatNe22
/- The program's parser: an atom. -/
namespace Go.Proofs.YtaimekaagmcmnaaGreat
open Go.RowKit
set_option linter.unusedVariables false
set_option linter.unusedSimpArgs false
attribute [local go_sem] Ext.cell

set_option maxRecDepth 100000 in
set_option maxHeartbeats 16000000 in
theorem atom_g {C : PC} {b : Nat} {R : PFs} (G : Good C b R) : EC C b 192 (atomB C.L C.E R) := by
  intro deep i ns o w nv h P
  generalize hQ : EPost C b w nv o = Q
  have hpost : ∀ q nv' W, PS C b W o.i nv' o.ns ∧ PF b w nv W nv' ∧ TR w.heap.size nv' W (.pointer (some ⟨q, 0, none⟩)) o.t → Q (.returned (.pointer (some ⟨q, 0, none⟩))) W := fun q nv' W h => by rw [← hQ]; exact ⟨q, nv', rfl, h⟩
  clear hQ
  have cT := tok_c P
  have cA := fun W => startsAtom_c (tokAt C.L C.E i) W
  have htw := tokAt_wf P.ok i
  unfold atomB at h
  have hin := fun h => tokAt_kind (L := C.L) (E := C.E) (i := i) (atom_in h)
  generalize tokAt C.L C.E i = t at *
  have hk06 : startsAtomP t = true → t.kind = 1 ∨ t.kind = 2 ∨ t.kind = 3 ∨ t.kind = 4 ∨ (t.kind = 6 ∧ anyS atomSigns t.s = true) := fun hs => by
    unfold startsAtomP sgn at hs
    by_cases h6 : t.kind = 6
    · rw [if_pos h6] at hs
      rw [h6, decide_eq_false (by decide), Bool.false_or] at hs
      exact .inr (.inr (.inr (.inr ⟨h6, hs⟩)))
    · rw [if_neg h6, show anyS atomSigns (bs []) = false from by decide, Bool.or_false] at hs
      have := of_decide_eq_true hs
      omega
  obtain ⟨kd, nn, s0, a⟩ := t
  dsimp only at h hk06
  obtain ⟨hw1, hw2, hw3, hw4⟩ := htw
  dsimp only at hw1 hw2 hw3 hw4
  generalize hsa : startsAtomP ⟨kd, nn, s0, a⟩ = sa at *
  cases sa
  · rw [if_pos rfl] at h; cases h
  rw [if_neg (by simp)] at h
  have hi := hin rfl
  have hkd := hk06 rfl
  replace cT : Calls Tryz.prog 140 #[.pointer (some ⟨b, 0, none⟩)] w fun e w' => e = .returned (.agg #[.int .i64 kd, .int .i64 nn, .string s0, .int .i64 a]) ∧ Below w.heap.size w w' := cT
  replace cA : ∀ W, Calls Tryz.prog 163 #[.agg #[.int .i64 kd, .int .i64 nn, .string s0, .int .i64 a]] W fun e w' => e = .returned (.bool true) ∧ Below W.heap.size W w' := cA
  have hlen := P.ok.len
  have hbl := P.lt
  clear hin hk06
  replace cT := Lib.hid cT; replace cA := Lib.hid cA; replace hpost := Lib.hid hpost; replace hsa := Lib.hid hsa
  go_enter Tryz.func192, Tryz.ntmps192
  go_upto_region 2 with (go_at_call 140; (with_reducible refine (cT.out).mono ?_); rintro e w1 ⟨rfl, hb1⟩)
  obtain ⟨w2, hW2⟩ : ∃ W, W = w1.alloc (.cells #[.int .i64 kd, .int .i64 nn, .string s0, .int .i64 a] 181) := ⟨_, rfl⟩
  rw [← hW2]
  have hb2 : Below w1.heap.size w1 w2 := by rw [hW2]; go_grown
  have E2 : RowAt w2 w1.heap.size 0 [.int .i64 kd, .int .i64 nn, .string s0, .int .i64 a] := by rw [hW2]; exact RowAt.box w1 #[_, _, _, _] _
  have hz1 := hb1.size
  have hz2 : w1.heap.size < w2.heap.size := by rw [hW2]; simp
  have hw02 := hb1.trans (hb2.mono hz1)
  have P2 := P.below hw02
  obtain ⟨tb, htb⟩ : ∃ x, x = w1.heap.size := ⟨_, rfl⟩
  rw [← htb] at E2 hz1 hz2 ⊢
  clear hW2 hb2 hb1 htb
  obtain ⟨e2_0, e2_1, e2_2, e2_3⟩ := E2.box4; have hsE2 := World.block_lt_of_cell? _ _ e2_0; dsimp only at hsE2
  go_upto_region 6 with (go_at_call 163; (with_reducible refine (cA.out _).mono ?_); rintro e w3 ⟨rfl, hb3⟩; have P3 := P2.below hb3; have hw03 := hw02.trans (hb3.mono hw02.size); have E3 := E2.below hb3; obtain ⟨p_0, p_1, p_2, p_3, p_4, p_5, p_6⟩ := P3.row.box7p; have pf_1 := P3.wr.frz 1 (by omega); have hbl3 := P3.lt)
  have e1 : (i : Int) + 1 = ((i + 1 : Nat) : Int) := by omega
  rw [e1]
  have P4 := P3.setAt (j := i + 1) (by omega) (by omega)
  have F4 := (PF.of nv hw03 (Nat.le_of_lt hbl)).set 1 (.int .i64 ((i + 1 : Nat) : Int))
  have E4 := E3.kept (S := (· = b)) ((Kept.refl (· = b) w3).set (p := ⟨b, 1, none⟩) rfl (.int .i64 ((i + 1 : Nat) : Int))) (by omega)
  have hz3 := hb3.size
  have hz4 : (w3.setCell ⟨b, 1, none⟩ (.int .i64 ((i + 1 : Nat) : Int))).heap.size = w3.heap.size := by simp [World.setCell]
  generalize w3.setCell ⟨b, 1, none⟩ (.int .i64 ((i + 1 : Nat) : Int)) = w4 at *
  have htb4 : tb < w4.heap.size := by omega
  have hnt : nv.ownBlock ≠ some tb := P.fresh hz1
  clear P3 P2 E3 E2 p_0 p_1 p_2 p_3 p_4 p_5 p_6 pf_1 hbl3 e2_0 e2_1 e2_2 e2_3 hsE2 hw03 hw02 hb3 hz4 hz3 hz2
  obtain ⟨e4_0, e4_1, e4_2, e4_3⟩ := E4.box4; have hsE4 := World.block_lt_of_cell? _ _ e4_0; dsimp only at hsE4
  have hbl4 := P4.lt
  clear e1
  obtain ⟨i1, hi1⟩ : ∃ x, x = i + 1 := ⟨_, rfl⟩
  rw [← hi1] at h P4
  replace hi1 := Lib.hid hi1
  by_cases k1 : kd = 1
  · subst k1
    rw [if_pos rfl] at h
    obtain rfl := Option.some.inj h
    have hf := fin_leaf P4 F4 (exw (k := 1) (by omega) hw4 hw2 bs_ok) rfl
    replace hf := Lib.hid hf
    go_wp2_with fail
    exact hpost.out _ nv _ hf.out
  rw [if_neg k1] at h
  have d1 : (kd == 1) = false := beq_eq_false_iff_ne.2 k1
  by_cases k2 : kd = 2
  · rw [if_pos k2] at h; cases h
  rw [if_neg k2] at h
  have d2 : (kd == 2) = false := beq_eq_false_iff_ne.2 k2
  by_cases k3 : kd = 3
  · subst k3
    rw [if_pos rfl] at h
    obtain rfl := Option.some.inj h
    have hf := fin_leaf P4 F4 (exw (k := 3) (by omega) hw4 z64 hw3) rfl
    replace hf := Lib.hid hf
    go_wp2_with fail
    exact hpost.out _ nv _ hf.out
  rw [if_neg k3] at h
  have d3 : (kd == 3) = false := beq_eq_false_iff_ne.2 k3
  by_cases k4 : kd = 4
  · rw [if_pos k4] at h; cases h
  rw [if_neg k4] at h
  have d4 : (kd == 4) = false := beq_eq_false_iff_ne.2 k4
  obtain ⟨rfl, hany⟩ : kd = 6 ∧ anyS atomSigns s0 = true := by rcases hkd with h | h | h | h | h; exact absurd h k1; exact absurd h k2; exact absurd h k3; exact absurd h k4; exact h
  clear hkd k1 k2 k3 k4
  obtain ⟨a1, ha1⟩ : ∃ q, eqS s0 qOpenB = q := ⟨_, rfl⟩
  have c1 : (s0.toList == [91]) = a1 := (eqS_lit qOpenB rfl).trans ha1
  rw [ha1] at h
  cases a1
  · rw [if_neg (by simp)] at h
    obtain ⟨a2, ha2⟩ : ∃ q, eqS s0 qTrue = q := ⟨_, rfl⟩
    have c2 : (s0.toList == [116, 114, 117, 101]) = a2 := (eqS_lit qTrue rfl).trans ha2
    obtain ⟨a3, ha3⟩ : ∃ q, eqS s0 qFalse = q := ⟨_, rfl⟩
    have c3 : (s0.toList == [102, 97, 108, 115, 101]) = a3 := (eqS_lit qFalse rfl).trans ha3
    rw [ha2, ha3] at h
    by_cases htf : (a2 || a3) = true
    · rw [if_pos htf] at h
      obtain rfl := Option.some.inj h
      have hf := fin_leaf P4 F4 (exw (k := 4) (by omega) hw4 z64 hw3) rfl
      replace hf := Lib.hid hf
      cases a2
      · obtain rfl : a3 = true := by simpa using htf
        go_wp2_with fail
        exact hpost.out _ nv _ hf.out
      · go_wp2_with fail
        exact hpost.out _ nv _ hf.out
    · rw [if_neg htf] at h
      obtain ⟨rfl, rfl⟩ : a2 = false ∧ a3 = false := by simpa using htf
      have cS4 := fun W (hW : Below w4.heap.size w4 W) => sign_c (P4.below hW)
      obtain ⟨a4, ha4⟩ : ∃ q, eqS (sgn (tokAt C.L C.E i1)) qClose = q := ⟨_, rfl⟩
      have c4 : ((sgn (tokAt C.L C.E i1)).toList == [41]) = a4 := (eqS_lit qClose rfl).trans ha4
      have hin4 : a4 = true → i1 < C.L.length := fun h => (sgn_in (ha4.trans h) (by decide)).1
      rw [ha4] at h
      generalize sgn (tokAt C.L C.E i1) = sg4 at *
      replace cS4 := Lib.hid cS4; replace ha4 := Lib.hid ha4; replace ha1 := Lib.hid ha1; replace ha2 := Lib.hid ha2; replace ha3 := Lib.hid ha3; replace hany := Lib.hid hany
      cases a4
      · rw [if_neg (by simp)] at h
        obtain ⟨oa, hoa, h⟩ := Option.bind_eq_some_iff.1 h
        have hdeep := G.elim _ _ _ _ hoa
        have cX := fun W (hW : Below w4.heap.size w4 W) => G.expr (deep + 1) i1 ns oa W nv hoa (P4.below hW)
        rw [show ((deep + 1 : Nat) : Int) = (deep : Int) + 1 by omega] at cX
        replace cX := Lib.hid cX; replace hoa := Lib.hid hoa
        clear hin4
        go_upto_region 26 with (first
          | (go_at_call 135; (with_reducible refine (cS4.out _ (Below.refl _ _)).mono ?_); rintro e w5 ⟨rfl, hb5⟩; have F5 := F4.near hb5 (by omega); have E5 := E4.below hb5)
          | (go_at_call 116; (with_reducible refine (cX.out _ hb5).mono ?_); rintro e w6 ⟨q6, nv6, rfl, P6, F6, T6⟩))
        obtain ⟨ta, ia, nsa⟩ := oa
        dsimp only at h P6 T6
        have E6 := E5.pf F6 (by omega) hnt
        have FF6 := F5.trans F6
        have h56 := F6.size
        have T6' := T6.lower F5.size
        have hbl6 := P6.lt
        have cS6 := fun W (hW : Below w6.heap.size w6 W) => sign_c (P6.below hW)
        obtain ⟨a6, ha6⟩ : ∃ q, eqS (sgn (tokAt C.L C.E ia)) qComma = q := ⟨_, rfl⟩
        have c6 : ((sgn (tokAt C.L C.E ia)).toList != [44]) = !a6 := (neS_lit qComma rfl).trans (by rw [ha6])
        have c6e : ((sgn (tokAt C.L C.E ia)).toList == [44]) = a6 := (eqS_lit qComma rfl).trans ha6
        have h45 := hb5.size
        have hnt6 := F6.nt hnt (by omega)
        have hin6 : a6 = true → ia < C.L.length := fun h => (sgn_in (ha6.trans h) (by decide)).1
        rw [ha6] at h
        generalize sgn (tokAt C.L C.E ia) = sg6 at *
        clear e4_0 e4_1 e4_2 e4_3 hsE4 E5 hb5 E4 P4 F4 F5 F6 T6 cX
        replace cS6 := Lib.hid cS6; replace ha6 := Lib.hid ha6
        cases a6
        · replace c6 : (sg6.toList != [44]) = true := c6
          rw [if_neg (by simp)] at h
          obtain ⟨j, hj, ho⟩ := Option.map_eq_some_iff.1 h
          subst ho
          have cE := fun W (hW : Below w6.heap.size w6 W) => eat_c (P6.below hW) ⟨#[41]⟩ (by decide) hj
          replace cE := Lib.hid cE; replace hj := Lib.hid hj
          clear h hin6
          go_wp2_with (first
            | (go_at_call 135; (with_reducible refine (cS6.out _ (Below.refl _ _)).mono ?_); rintro e w7 ⟨rfl, hb7⟩)
            | (go_at_call 137; (with_reducible refine (cE.out _ hb7).mono ?_); rintro e w8 ⟨rfl, P8, F8⟩))
          exact hpost.out q6 nv6 _ ⟨P8, (FF6.near hb7 (by omega)).trans F8, (T6'.below hb7).step F8 (by omega)⟩
        · replace c6 : (sg6.toList != [44]) = false := c6
          rw [if_pos rfl] at h
          obtain ⟨ob, hob, h⟩ := Option.bind_eq_some_iff.1 h
          obtain ⟨j, hj, ho⟩ := Option.map_eq_some_iff.1 h
          subst ho
          obtain ⟨tb2, ib, nsb⟩ := ob
          dsimp only at hj hpost
          have hi6 := hin6 rfl
          clear h hin6
          replace hj := Lib.hid hj; replace hob := Lib.hid hob
          go_upto_region 30 with (go_at_call 135; (with_reducible refine (cS6.out _ (Below.refl _ _)).mono ?_); rintro e w7 ⟨rfl, hb7⟩; have P7 := P6.below hb7; obtain ⟨p_0, p_1, p_2, p_3, p_4, p_5, p_6⟩ := P7.row.box7p; have pf_1 := P7.wr.frz 1 (by omega); have hbl7 := P7.lt)
          obtain ⟨P8, F8⟩ := step_at P7 hi6
          have FF8 := (FF6.near hb7 (by omega)).trans F8
          have T8 := (T6'.below hb7).step F8 (by omega)
          have E8 := (E6.below hb7).pf F8 (by omega) hnt6
          have h78 := F8.size
          have h67 := hb7.size
          clear p_0 p_1 p_2 p_3 p_4 p_5 p_6 pf_1 P7 E6 P6 FF6 T6'
          generalize w7.setCell ⟨b, 1, none⟩ (.int .i64 ((ia : Int) + 1)) = w8 at *
          have hbl8 := P8.lt
          have cX8 := G.expr (deep + 1) (ia + 1) nsa _ w8 nv6 hob.out P8
          rw [show ((deep + 1 : Nat) : Int) = (deep : Int) + 1 by omega] at cX8
          replace cX8 := Lib.hid cX8
          go_upto_region 31 with (go_at_call 116; (with_reducible refine (cX8.out).mono ?_); rintro e w9 ⟨q9, nv9, rfl, P9, F9, T9⟩)
          have FF9 := FF8.trans F9
          have E9 := E8.pf F9 (by omega) hnt6
          have T8' := T8.step F9 (by omega)
          have T9' := T9.lower FF8.size
          have cE := eat_c P9 ⟨#[41]⟩ (by decide) hj.out
          have h89 := F9.size
          replace cE := Lib.hid cE
          clear P8 E8 T8 T9 cX8
          go_upto_region 32 with (go_at_call 137; (with_reducible refine (cE.out).mono ?_); rintro e w10 ⟨rfl, P10, F10⟩)
          have FF10 := FF9.trans F10
          have hnt9 := F9.nt hnt6 (by omega)
          have E10 := E9.pf F10 (by omega) hnt9
          have T8'' := T8'.step F10 (by omega)
          have T9'' := T9'.step F10 (by omega)
          have hbl10 := P10.lt
          obtain ⟨e10_0, e10_1, e10_2, e10_3⟩ := E10.box4; have hsE10 := World.block_lt_of_cell? _ _ e10_0; dsimp only at hsE10
          have hf := fin_node P10 FF10 (kd := 11) (at_ := a) (nn := 0) (s := bs []) (n := 2) (exw (by omega) hw4 z64 bs_ok) rfl rfl (by omega) (hk2 T8'' T9'') rfl
          replace hf := Lib.hid hf
          clear T8'' T9'' T8' T9' E9 P9 cE
          go_wp2_with fail
          exact hpost.out _ nv9 _ hf.out
      · rw [if_pos rfl] at h
        obtain rfl := Option.some.inj h
        have hi4 := hin4 rfl
        clear hin4
        go_upto_region 24 with (go_at_call 135; (with_reducible refine (cS4.out _ (Below.refl _ _)).mono ?_); rintro e w5 ⟨rfl, hb5⟩; have P5 := P4.below hb5; have E5 := E4.below hb5; obtain ⟨p_0, p_1, p_2, p_3, p_4, p_5, p_6⟩ := P5.row.box7p; have pf_1 := P5.wr.frz 1 (by omega); have hbl5 := P5.lt)
        obtain ⟨P6, F6⟩ := step_at P5 hi4
        have FF := (F4.near hb5 (by omega)).trans F6
        have E6 := E5.pf F6 (by omega) hnt
        clear p_0 p_1 p_2 p_3 p_4 p_5 p_6 pf_1 P5 E5
        generalize w5.setCell ⟨b, 1, none⟩ (.int .i64 ((i1 : Int) + 1)) = w6 at *
        obtain ⟨e6_0, e6_1, e6_2, e6_3⟩ := E6.box4; have hsE6 := World.block_lt_of_cell? _ _ e6_0; dsimp only at hsE6
        have hbl6 := P6.lt
        have hf := fin_leaf P6 FF (exw (k := 12) (by omega) hw4 z64 bs_ok) rfl
        replace hf := Lib.hid hf
        go_wp2_with fail
        exact hpost.out _ nv _ hf.out
  · rw [if_pos rfl] at h
    obtain ⟨j, hj, ho⟩ := Option.map_eq_some_iff.1 h
    subst ho
    have cE := eat_c P4 ⟨#[93]⟩ (by decide) hj
    replace cE := Lib.hid cE; replace hj := Lib.hid hj
    clear h
    go_upto_region 18 with (go_at_call 137; (with_reducible refine (cE.out).mono ?_); rintro e w5 ⟨rfl, P5, F5⟩)
    have E5 := E4.pf F5 (by omega) hnt
    have FF := F4.trans F5
    obtain ⟨e5_0, e5_1, e5_2, e5_3⟩ := E5.box4; have hsE5 := World.block_lt_of_cell? _ _ e5_0; dsimp only at hsE5
    have hf := fin_leaf P5 FF (exw (k := 4) (by omega) hw4 z64 (show StrOk qNil by unfold StrOk; decide)) rfl
    replace hf := Lib.hid hf
    go_wp2_with fail
    exact hpost.out _ nv _ hf.out
end Go.Proofs.YtaimekaagmcmnaaGreat

/- The program's parser: all its functions, by the fuel. -/
namespace Go.Proofs.YtaimekaagmcmnaaGreat
open Go.RowKit
set_option linter.unusedVariables false
set_option linter.unusedSimpArgs false

section
variable (L : List GTok) (E : Nat)
def pfsG : Nat → PFs
  | 0 => pfs0
  | f + 1 => { expr := exprB L E (pfsG f), set := setB L E (pfsG f), listed := listedB L E (pfsG f), chain := chainB L E (pfsG f), compared := comparedB L E (pfsG f), unary := unaryB L E (pfsG f), app := appB L E (pfsG f), atom := atomB L E (pfsG f), mtch := mtchG L E (pfsG f), pat := patB L E (pfsG f), patAtom := patAtomB L E (pfsG f) }
end
theorem elim_B {L : List GTok} {E : Nat} {R : PFs} : ∀ deep i ns o, exprB L E R deep i ns = some o → deep ≤ 100 := fun deep i ns o h => by
  unfold exprB at h
  dsimp only at h
  split at h
  · cases h
  · split at h
    · cases h
    · omega
theorem plim_B {L : List GTok} {E : Nat} {R : PFs} : ∀ deep i ns o, patB L E R deep i ns = some o → deep ≤ 100 := fun deep i ns o h => by
  unfold patB at h
  split at h
  · cases h
  · split at h
    · cases h
    · omega
theorem good_pfs (C : PC) (b : Nat) : ∀ f, Good C b (pfsG C.L C.E f)
  | 0 => ⟨fun _ _ _ _ _ _ h => (by cases h), fun _ _ _ _ _ _ h => (by cases h), fun _ _ _ _ _ _ h => (by cases h), fun _ _ _ _ _ _ h => (by cases h), fun _ _ _ _ _ _ h => (by cases h), fun _ _ _ _ _ _ h => (by cases h), fun _ _ _ _ _ _ h => (by cases h),
      fun _ _ _ _ _ _ _ h => (by cases h), fun _ _ _ _ _ _ _ _ h => (by cases h), fun _ _ _ _ _ _ h => (by cases h), fun _ _ _ _ _ _ h => (by cases h), fun _ _ _ _ h => (by cases h), fun _ _ _ _ h => (by cases h)⟩
  | f + 1 =>
    have G := good_pfs C b f
    ⟨expr_g G, set_g G, listed_g G, compared_g G, unary_g G, app_g G, atom_g G, chain_g G, mtch_g G, pat_g G, patAtom_g G, elim_B, plim_B⟩
end Go.Proofs.YtaimekaagmcmnaaGreat

/- The program's tooMany: a program without types that is not too large. -/
namespace Go.Proofs.YtaimekaagmcmnaaGreat
open Go.RowKit
set_option linter.unusedVariables false
set_option linter.unusedSimpArgs false
attribute [local go_sem] Ext.cell

set_option maxRecDepth 100000 in
set_option maxHeartbeats 8000000 in
theorem tooMany_c (N : List GNode) (hN : N.length ≤ 600) (hp : ∀ x ∈ N, x.pats.length ≤ 1048576 ∧ ∀ q ∈ x.pats, q.nodes.length ≤ 600) (ta : Option Addr) (tc : Nat) (nv : Value) (lo : Nat) (w : World) (hr : Sl GNode.R 6 lo w nv N) :
    Calls Tryz.prog 119 #[.agg #[.slice ta 0 tc, nv]] w fun e w' => e = .returned (.bool false) ∧ Below w.heap.size w w' := by
  obtain ⟨na, nc, rfl, ul, um, h0⟩ := hr
  obtain ⟨n, hn⟩ : ∃ n, n = N.length := ⟨_, rfl⟩
  rw [← hn] at ul hN ⊢
  have hkk : ∀ W, Below w.heap.size w W → SlAt GNode.R 6 lo W na N := fun W hW => h0.below GNode.good hW
  clear h0
  replace hn := Lib.hid hn; replace hp := Lib.hid hp; replace hkk := Lib.hid hkk
  have dn : decide ((600 : Int) < (n : Int)) = false := decide_eq_false (by omega)
  have dn2 : decide (600 < n) = false := decide_eq_false (by omega)
  go_enter Tryz.func119, Tryz.ntmps119
  go_upto_region 1 with fail
  have D : RowAt (w.alloc (.cells #[.slice ta 0 tc, .slice na n nc] 32)) (w.heap.size) 0 [.slice ta 0 tc, .slice na n nc] := RowAt.box w #[.slice ta 0 tc, .slice na n nc] 32
  have hw : Below w.heap.size w (w.alloc (.cells #[.slice ta 0 tc, .slice na n nc] 32)) := by go_grown
  generalize (w.alloc (.cells #[.slice ta 0 tc, .slice na n nc] 32)) = w0 at *
  obtain ⟨d_0, d_1⟩ := D.box2; have hsD := World.block_lt_of_cell? _ _ d_0; dsimp only at hsD
  go_wp2_with fail
  go_loopw [12] (fun ii wr => ii = .int .i64 0 ∧ wr = w0) (fun ii _ => 0)
  case atStart => exact ⟨rfl, rfl⟩
  case round =>
    obtain ⟨rfl, rfl⟩ := hrel
    go_wp2_with fail
    go_loopw [24] (fun ii wr => ∃ k : Nat, k ≤ n ∧ ii = .int .i64 k ∧ Below w.heap.size w wr ∧ RowAt wr w.heap.size 0 [.slice ta 0 tc, .slice na n nc]) (fun ii _ => n - (intOf ii).toNat)
    case atStart => exact ⟨0, by omega, rfl, hw, D⟩
    case round =>
      clear hw D d_0 d_1 hsD
      obtain ⟨k, hk, rfl, hw, D⟩ := hrel
      have hsz := hw.size
      obtain ⟨d_0, d_1⟩ := D.box2; have hsD := World.block_lt_of_cell? _ _ d_0; dsimp only at hsD
      by_cases hlt : k < n
      · obtain ⟨b1, o1, x, r, _, rfl, P1, hx, r1⟩ := (hkk.out _ hw).get hn.out hlt
        have P1' := P1.out
        obtain ⟨hxl, hxs⟩ := hp.out x (List.mem_of_getElem? P1')
        obtain ⟨v0, v1, rfl, hwf, hk0, hp0⟩ := hx
        obtain ⟨kd, at_, nn, s, ks, ps⟩ := x
        dsimp only at hxl hxs hk0 hp0 r1
        obtain ⟨ka, kc, rfl⟩ := hk0.form
        obtain ⟨pm, hpm⟩ : ∃ m, m = ps.length := ⟨_, rfl⟩
        obtain ⟨pa, pc, rfl, pl, pmm, p0⟩ := hp0
        rw [← hpm] at pl hxl r1
        have hpp : ∀ W, Below wr.heap.size wr W → SlAt GPat.R 1 lo W pa ps := fun W hW => p0.below GPat.good hW
        obtain ⟨e_0, e_1, e_2, e_3, e_4, e_5⟩ := r1.cells6
        have hbb1 := World.block_lt_of_cell? _ _ e_0; dsimp only at hbb1
        clear hk0 p0 hwf r1 P1 P1'
        generalize ks.length = m at *
        replace hpm := Lib.hid hpm; replace hpp := Lib.hid hpp; replace hxs := Lib.hid hxs
        go_upto_region 10 with fail
        have hb1 : Below wr.heap.size wr (wr.alloc (.cells #[.int .i64 kd, .int .i64 at_, .int .i64 nn, .string s, .slice ka m kc, .slice pa pm pc] 74)) := by go_grown
        have E : RowAt (wr.alloc (.cells #[.int .i64 kd, .int .i64 at_, .int .i64 nn, .string s, .slice ka m kc, .slice pa pm pc] 74)) wr.heap.size 0 [.int .i64 kd, .int .i64 at_, .int .i64 nn, .string s, .slice ka m kc, .slice pa pm pc] := RowAt.box _ _ _
        have hw' := hw.trans (hb1.mono hsz)
        have D' := D.below hb1
        have hz2 : wr.heap.size < (wr.alloc (.cells #[.int .i64 kd, .int .i64 at_, .int .i64 nn, .string s, .slice ka m kc, .slice pa pm pc] 74)).heap.size := by simp
        generalize wr.alloc (.cells #[.int .i64 kd, .int .i64 at_, .int .i64 nn, .string s, .slice ka m kc, .slice pa pm pc] 74) = w2 at *
        clear hw D d_0 d_1 hsD e_0 e_1 e_2 e_3 e_4 e_5
        obtain ⟨e_0, e_1, e_2, e_3, e_4, e_5⟩ := E.box6; have hsE := World.block_lt_of_cell? _ _ e_0; dsimp only at hsE
        have hpp2 : ∀ W, Below w2.heap.size w2 W → SlAt GPat.R 1 lo W pa ps := fun W hW => hpp.out W (hb1.trans (hW.mono (by omega)))
        replace hpp2 := Lib.hid hpp2
        clear hpp hb1 hz2 hsz
        go_upto_region 11 with fail
        go_loopw [31] (fun ii wq => ∃ j : Nat, j ≤ pm ∧ ii = .int .i64 j ∧ Below w2.heap.size w2 wq) (fun ii _ => pm - (intOf ii).toNat)
        case atStart => exact ⟨0, by omega, rfl, Below.refl _ _⟩
        case round =>
          obtain ⟨j, hj, rfl, hwq⟩ := hrel
          by_cases hjt : j < pm
          · obtain ⟨b2, o2, y, r2, _, rfl, P2, hy, r2'⟩ := (hpp2.out _ hwq).get hpm.out hjt
            have hq := hxs.out y (List.mem_of_getElem? P2.out)
            obtain ⟨v2, rfl, _, hy0⟩ := hy
            obtain ⟨ya, yc, rfl⟩ := hy0.form
            generalize y.nodes.length = yn at *
            have f_0 : wr.cell? ⟨b2, o2 + j, none⟩ = some (.slice ya yn yc) := by simpa using r2' 0 _ rfl
            have hbb2 := World.block_lt_of_cell? _ _ f_0; dsimp only at hbb2
            have dq : decide ((600 : Int) < (yn : Int)) = false := decide_eq_false (by omega)
            have dq2 : decide (600 < yn) = false := decide_eq_false (by omega)
            clear hy0 r2' P2
            go_wp2_with fail
            go_roundw
            case rel => exact ⟨j + 1, by omega, by go_num, hwq.trans (Below.mono (by go_grown) hwq.size)⟩
            case measure => simp [intOf]; omega
          · obtain rfl : j = pm := by omega
            have hw3 := hw'.trans (hwq.mono hw'.size)
            have D3 := D'.below hwq
            go_wp2_with fail
            go_roundw
            case rel => exact ⟨k + 1, by omega, by go_num, hw3, D3⟩
            case measure => simp [intOf]; omega
      · obtain rfl : k = n := by omega
        go_wp2_with fail
        go_returns
        exact ⟨rfl, by go_grown⟩
end Go.Proofs.YtaimekaagmcmnaaGreat

/- The text of a number: digits, the reversal of bytes, NumText of both. -/
namespace Go.Proofs.YtaimekaagmcmnaaGreat
open Go.RowKit
set_option linter.unusedVariables false
set_option linter.unusedSimpArgs false
attribute [local go_sem] Ext.cell

def bval (b : UInt8) : Value := .int .u8 b.toNat
def BytesAt (w : World) (g n : Nat) (f : Nat → UInt8) : Prop := ∀ j, j < n → w.cell? ⟨g, j, none⟩ = some (.int .u8 (f j).toNat) ∧ w.frozen? ⟨g, j, none⟩ = false
theorem BytesAt.set {w : World} {g n : Nat} {f : Nat → UInt8} (h : BytesAt w g n f) {o : Nat} (ho : o < n) (b : UInt8) : BytesAt (w.setCell ⟨g, o, none⟩ (.int .u8 b.toNat)) g n (fun j => if j = o then b else f j) := fun j hj => by
  refine ⟨?_, by rw [frozen_setCell]; exact (h j hj).2⟩
  dsimp only
  by_cases e : j = o
  · subst e
    rw [if_pos rfl]
    exact cell_setCell_eq _ _ _ _ (h j hj).1
  · rw [if_neg e, cell_setCell_ne _ _ _ _ _ (by omega)]
    exact (h j hj).1
theorem BytesAt.congr {w : World} {g n : Nat} {f f' : Nat → UInt8} (h : BytesAt w g n f) (e : ∀ j, j < n → f j = f' j) : BytesAt w g n f' := fun j hj => by rw [← e j hj]; exact h j hj
theorem BytesAt.drew {w : World} {g n : Nat} {f : Nat → UInt8} (h : BytesAt w g n f) : BytesAt w.drew g n f := fun j hj => h j hj

def src (n i p : Nat) : Nat := if p < i ∨ n ≤ p + i then n - 1 - p else p

theorem src_step (f : Nat → UInt8) {n i j p : Nat} (hj : (n : Int) - 1 - i = j) (hij : i < j) (hp : p < n) :
    (if p = j then f (src n i i) else if p = i then f (src n i j) else f (src n i p)) = f (src n (i + 1) p) := by
  have h1 : src n i i = i := by unfold src; rw [if_neg (by omega)]
  have h2 : src n i j = j := by unfold src; rw [if_neg (by omega)]
  rw [h1, h2]
  by_cases e1 : p = j
  · rw [if_pos e1]; congr 1; unfold src; rw [if_pos (by omega)]; omega
  · rw [if_neg e1]
    by_cases e2 : p = i
    · rw [if_pos e2]; congr 1; unfold src; rw [if_pos (by omega)]; omega
    · rw [if_neg e2]; congr 1; unfold src
      by_cases e3 : p < i ∨ n ≤ p + i
      · rw [if_pos e3, if_pos (by omega)]
      · rw [if_neg e3, if_neg (by omega)]
theorem src_step' (f : Nat → UInt8) {n i j p : Nat} (hj : (n : Int) - 1 - i = j) (hij : i < j) (hp : p < n) :
    (if p = i then f (src n i j) else if p = j then f (src n i i) else f (src n i p)) = f (src n (i + 1) p) := by
  rw [← src_step f hj hij hp]
  by_cases e1 : p = j
  · rw [if_neg (by omega), if_pos e1, if_pos e1]
  · rw [if_neg e1, if_neg e1]

set_option maxRecDepth 100000 in
set_option maxHeartbeats 4000000 in
theorem reverseB_c (g n cap : Nat) (f : Nat → UInt8) (hn : n ≤ 1152921504606846976) (hc : n ≤ cap) (w : World) (h : BytesAt w g n f) :
    Calls Tryz.prog 187 #[.slice (some ⟨g, 0, none⟩) n cap] w fun e w' => e = .returned (.tuple #[]) ∧ BytesAt w' g n (fun j => f (n - 1 - j)) ∧ Below g w w' ∧ w.heap.size ≤ w'.heap.size := by
  replace h := Lib.hid h
  go_enter Tryz.func187, Tryz.ntmps187
  go_wp2_with fail
  go_loopw [2, 3] (fun a b wr => ∃ i : Nat, 2 * i ≤ n + 1 ∧ a = .int .i64 i ∧ b = .int .i64 ((n : Int) - 1 - i) ∧ Hid (BytesAt wr g n fun p => f (src n i p)) ∧ Below g w wr ∧ w.heap.size ≤ wr.heap.size) (fun a _ _ => n - (intOf a).toNat)
  case atStart => exact ⟨0, by omega, by simp, by simp, h.out.congr (fun j hj => by unfold src; rw [if_neg (by omega)]), Below.refl _ _, Nat.le_refl _⟩
  case round =>
    obtain ⟨i, hi, rfl, rfl, hB, hw, hs⟩ := hrel
    by_cases hlt : (i : Int) < (n : Int) - 1 - i
    · obtain ⟨j, hj⟩ : ∃ j : Nat, (n : Int) - 1 - i = j := ⟨n - 1 - i, by omega⟩
      rw [hj] at hlt
      have hjn : j < n := by omega
      have hin : i < n := by omega
      have hij : i < j := by omega
      obtain ⟨e1, e2⟩ := hB.out i hin
      obtain ⟨e3, e4⟩ := hB.out j hjn
      rw [hj]
      have hBi := (hB.out.set hin (f (src n i j))).set hjn (f (src n i i))
      have hBj := (hB.out.set hjn (f (src n i i))).set hin (f (src n i j))
      replace hBi := Lib.hid hBi; replace hBj := Lib.hid hBj
      replace hj := Lib.hid hj
      go_wp2_with fail
      go_region
      all_goals go_wp2_with fail
      all_goals
        go_roundw
        case rel =>
          have h := hj.out
          refine ⟨i + 1, by omega, by go_num, by congr 1; omega, ?_, by go_grown, by simpa using hs⟩
          first
            | exact hBi.out.drew.congr fun p hp => src_step f h hij hp
            | exact hBj.out.drew.congr fun p hp => src_step' f h hij hp
        case measure => simp [intOf]; omega
    · have hfin := hB.out.congr (f' := fun j => f (n - 1 - j)) fun p hp => by unfold src; congr 1; split <;> omega
      replace hfin := Lib.hid hfin
      go_wp2_with fail
      go_returns
      exact ⟨rfl, hfin.out, hw, hs⟩

end Go.Proofs.YtaimekaagmcmnaaGreat

/- The text of a number: the program's digits and NumText. -/
namespace Go.Proofs.YtaimekaagmcmnaaGreat
open Go.RowKit
set_option linter.unusedVariables false
set_option linter.unusedSimpArgs false
attribute [local go_sem] Ext.cell

def revd (n : Nat) : List UInt8 := if n < 10 then [dig n] else dig n :: revd (n / 10)
theorem revd_small {n : Nat} (h : n < 10) : revd n = [dig n] := by rw [revd, if_pos h]
theorem revd_step {n : Nat} (h : ¬ n < 10) : revd n = dig n :: revd (n / 10) := by conv => lhs; rw [revd, if_neg h]
theorem revd_len : ∀ (m n : Nat), n < 10 ^ (m + 1) → (revd n).length ≤ m + 1
  | 0, n, h => by rw [revd_small (by simpa using h)]; simp
  | m + 1, n, h => by
    by_cases h1 : n < 10
    · rw [revd_small h1]; simp
    · rw [revd_step h1]
      have := revd_len m (n / 10) (by rw [Nat.pow_succ] at h; omega)
      simp; omega
def numS (n : Nat) : ByteArray := ⟨(revd n).reverse.toArray⟩
theorem dig_toNat (n : Nat) : (dig n).toNat = 48 + n % 10 := by unfold dig; rw [UInt8.toNat_ofNat']; exact Nat.mod_eq_of_lt (by omega)
theorem info_u8 : (Tryz.prog.info? 5).map (fun i => (i.zero, i.size, i.bytes)) = some (some (.int .u8 0), 1, 1) := by kernel_rfl

def DigSt (N k : Nat) (o : List UInt8) : Prop := (k = 0 ∧ o = revd N ∧ o ≠ []) ∨ ((0 < k ∨ o = []) ∧ o ++ revd k = revd N)
theorem DigSt.step {N k : Nat} {o : List UInt8} (h : DigSt N k o) (h0 : 0 < k ∨ o = []) : DigSt N (k / 10) (o ++ [dig k]) := by
  rcases h with ⟨h1, h2, h3⟩ | ⟨_, h2⟩
  · rcases h0 with h0 | h0
    · omega
    · exact absurd h0 h3
  · by_cases h1 : k < 10
    · rw [revd_small h1] at h2
      exact .inl ⟨by omega, h2, by simp⟩
    · rw [revd_step h1] at h2
      exact .inr ⟨.inl (by omega), by rw [List.append_assoc]; exact h2⟩
theorem DigSt.len {N k : Nat} {o : List UInt8} (h : DigSt N k o) : o.length ≤ (revd N).length := by
  rcases h with ⟨_, h2, _⟩ | ⟨_, h2⟩
  · rw [h2]; exact Nat.le_refl _
  · rw [← h2]; simp
theorem DigSt.done {N k : Nat} {o : List UInt8} (h : DigSt N k o) (h0 : k = 0) (h1 : o ≠ []) : o = revd N := by
  rcases h with ⟨_, h2, _⟩ | ⟨h2, _⟩
  · exact h2
  · rcases h2 with h2 | h2
    · omega
    · exact absurd h2 h1

theorem own_bytes {w : World} {base : Nat} {v : Value} {o : List UInt8} (h : w.ownsRow base 5 1 v o.length (o.map bval)) (h0 : 0 < o.length) :
    ∃ g cap, v = .slice (some ⟨g, 0, none⟩) o.length cap ∧ base ≤ g ∧ g < w.heap.size ∧ o.length ≤ cap ∧ cap ≤ 9223372036854775807 ∧ BytesAt w g o.length fun j => o.getD j 0 := by
  obtain ⟨g, cap, rfl, h1, h2, h3, h4, h5, h6⟩ := own_cells h h0
  refine ⟨g, cap, rfl, h1, h2, h3, h4, fun j hj => ?_⟩
  have e := h5 j (bval (o.getD j 0)) (by rw [List.getElem?_map, List.getElem?_eq_getElem hj]; simp [List.getD, List.getElem?_eq_getElem hj])
  obtain ⟨c, _, f⟩ := h6 j (by omega)
  exact ⟨by simpa [bval] using e, by simpa using f⟩

set_option maxRecDepth 100000 in
set_option maxHeartbeats 4000000 in
theorem digits_c (N : Nat) (hN : N ≤ 4611686018427387904) (w : World) :
    Calls Tryz.prog 182 #[.int .i64 N] w fun e w' => e = .returned (.string (numS N)) ∧ Below w.heap.size w w' := by
  have hlen : (revd N).length ≤ 19 := revd_len 18 N (by omega)
  obtain ⟨i0, hi0, hz0, hz1, hz2⟩ := info_parts info_u8
  have I := Lib.hid hi0; have I0 := Lib.hid hz0; have I1 := Lib.hid hz1; have I2 := Lib.hid hz2
  clear hi0 hz0 hz1 hz2
  go_enter Tryz.func182, Tryz.ntmps182
  go_wp2_with fail
  go_loopg [0, 3] (N + 1) (fun gg m v wr => ∃ (k : Nat) (o : List UInt8), k ≤ N ∧ m = .int .i64 k ∧ Hid (DigSt N k o) ∧ wr.ownsRow w.heap.size 5 1 v o.length (o.map bval) ∧ (∃ a c, v = .slice a o.length c) ∧ Below w.heap.size w wr ∧ k + (if o = [] then 1 else 0) ≤ gg)
  case atStart => exact ⟨N, [], Nat.le_refl _, rfl, .inr ⟨.inr rfl, by simp⟩, own_new w #[] 5 1 0 rfl (by unfold maxLen; omega) _ (Nat.le_refl _), ⟨_, _, rfl⟩, by go_grown, by simp⟩
  case round =>
    obtain ⟨k, o, hk, rfl, hD, O, ⟨a, c, rfl⟩, hw, hg⟩ := hrel
    have hz := hw.size
    have hol := hD.out.len
    by_cases h0 : 0 < k ∨ o = []
    · have hst := hD.out.step h0
      have h0' := h0
      have hb : bval (dig k) = .int .u8 (48 + (k : Int) % 10) := by unfold bval; rw [dig_toNat]; simp
      have hb2 : (o ++ [dig k]).map bval = o.map bval ++ [.int .u8 (48 + (k : Int) % 10)] := by rw [List.map_append]; simp [hb]
      have hg2 : ∀ x, k + (if o = [] then 1 else 0) ≤ x → k / 10 + (if o ++ [dig k] = [] then 1 else 0) < x := by
        intro x hg
        rw [if_neg (by simp)]
        by_cases hk0 : 0 < k
        · have : k / 10 < k := by omega
          omega
        · rw [if_pos (by rcases h0 with h | h; exact absurd h hk0; exact h)] at hg; omega
      replace hg2 := Lib.hid hg2; replace hb2 := Lib.hid hb2; replace hst := Lib.hid hst; replace O := Lib.hid O
      clear hb
      replace hg := Lib.hid hg
      clear h0
      by_cases hk0 : 0 < k
      · have hd : decide ((0 : Int) < (k : Int)) = true := decide_eq_true (by omega)
        go_wp2_with (at_builtin; refine wpList_append_lies _ rfl _ _ _ rfl w.heap.size 5 i0 _ 1 1 Tryz.underlying101 I.out I0.out I1.out I2.out rfl (by omega) (.slice a o.length c) o.length (o.map bval) rfl (own_below O.out (by go_grown)) ⟨wr.heap.size, 0, none⟩ 1 1 [.int .u8 (48 + (k : Int) % 10)] rfl rfl (World.news_of_block (cs := #[.int .u8 (48 + (k : Int) % 10)]) (t := 5) (fr := (0, 0)) (heap_alloc_new' _ _ _ (by simp))) (by intro u hu; simp at hu; subst hu; rfl) (by omega) (by unfold maxLen; omega) (by omega) (by simp; omega) _ rfl ?_; intro g cap w2 hown hgrow hat hlt2)
        have hw2 := below_grown2 (wr := wr) hgrow (by go_grown) hw hz O.out
        rw [← hb2.out] at hown
        go_roundg (k / 10 + (if o ++ [dig k] = [] then 1 else 0))
        case measure => exact hg2.out _ hg.out
        case rel => exact ⟨k / 10, o ++ [dig k], by omega, by go_num, hst.out, by simpa using hown, ⟨some ⟨g, 0, none⟩, cap, by simp⟩, hw2, Nat.le_refl _⟩
      · obtain rfl : k = 0 := by omega
        obtain rfl : o = [] := by rcases h0' with h | h; exact absurd h hk0; exact h
        replace O : Hid (wr.ownsRow w.heap.size 5 1 (.slice a 0 c) 0 []) := O
        replace hb2 : Hid (([] ++ [dig 0]).map bval = [.int .u8 48]) := rfl
        clear hk0
        simp only [List.length_nil]
        go_wp2_with (at_builtin; refine wpList_append_lies _ rfl _ _ _ rfl w.heap.size 5 i0 _ 1 1 Tryz.underlying101 I.out I0.out I1.out I2.out rfl (by omega) (.slice a 0 c) 0 [] rfl (own_below O.out (by go_grown)) ⟨wr.heap.size, 0, none⟩ 1 1 [.int .u8 48] rfl rfl (World.news_of_block (cs := #[.int .u8 48]) (t := 5) (fr := (0, 0)) (heap_alloc_new' _ _ _ (by simp))) (by intro u hu; simp at hu; subst hu; rfl) (by omega) (by unfold maxLen; omega) (by omega) (by simp; omega) _ rfl ?_; intro g cap w2 hown hgrow hat hlt2)
        have hw2 := below_grown2 (wr := wr) hgrow (by go_grown) hw hz O.out
        replace hown : w2.ownsRow w.heap.size 5 1 (.slice (some ⟨g, 0, none⟩) 1 cap) 1 (([] ++ [dig 0]).map bval) := by rw [hb2.out]; simpa using hown
        go_roundg (0 / 10 + (if [] ++ [dig 0] = [] then 1 else 0))
        case measure => exact hg2.out _ hg.out
        case rel => exact ⟨0, [] ++ [dig 0], by omega, by first | rfl | go_num, hst.out, hown, ⟨some ⟨g, 0, none⟩, cap, by simp⟩, hw2, Nat.le_refl _⟩
    · have hk0 : k = 0 := by omega
      have ho : o ≠ [] := fun h => h0 (.inr h)
      have hfin := hD.out.done hk0 ho
      subst hk0
      subst hfin
      obtain ⟨g, cap, hv, h1, h2, h3, h4, hB⟩ := own_bytes O (List.length_pos_iff.2 ho)
      obtain ⟨rfl, rfl⟩ : a = some ⟨g, 0, none⟩ ∧ c = cap := by injection hv with e1 e2 e3; exact ⟨e1, e3⟩
      obtain ⟨n, hn⟩ : ∃ n, n = (revd N).length := ⟨_, rfl⟩
      rw [← hn] at hB h3 hol
      have hn0 : 0 < n := by rw [hn]; exact List.length_pos_iff.2 ho
      have hc := reverseB_c g n c _ (by omega) h3 wr hB
      have hd2 : ((n : Int) == 0) = false := by simp; omega
      rw [← hn]
      replace hn := Lib.hid hn
      clear hD O hv ho h0 hB hg
      go_wp2_with fail
      refine hc.mono ?_
      rintro e w2 ⟨rfl, hB2, hb, hs2⟩
      have hrun := run_convert_bytes_back (P := Tryz.prog) w2 101 9 5 ⟨g, 0, none⟩ c (revd N).reverse Tryz.underlying101 Tryz.underlying5 Tryz.underlying9 (fun j hj => by
        have hj' : j < (revd N).length := by simpa using hj
        have := (hB2 j (by rw [hn.out]; exact hj')).1
        rw [show (Addr.add ⟨g, 0, none⟩ j) = ⟨g, j, none⟩ by (unfold Addr.add; split <;> simp_all), this, hn.out]
        rw [List.getElem_reverse]
        simp only [List.getD]
        rw [List.getElem?_eq_getElem (by omega)]
        simp)
      rw [List.length_reverse, ← hn.out] at hrun
      clear hc hB2
      go_wp2_with fail
      go_returns
      exact ⟨rfl, hw.trans (hb.mono h1)⟩

end Go.Proofs.YtaimekaagmcmnaaGreat
