/- Parts of the proof, merged: Pr4, Pr15, TooMany, Num. -/
import Derived.Deep.RegionHeld3
import Derived.Laws.IdiomStrings
import Derived.RegionTactic
import Derived.Deep.LoopGhost
import Derived.Test.YtcjoheplilaccaaGreatLt21
/- The program's parser: an atom. -/
namespace Go.Proofs.YtcjoheplilaccaaGreat
open Go.RowKit
set_option linter.unusedVariables false
set_option linter.unusedSimpArgs false
attribute [local go_sem] Ext.cell

set_option maxRecDepth 100000 in
set_option maxHeartbeats 16000000 in
theorem atom_g {C : PC} {b : Nat} {R : PFs} (G : Good C b R) : EC C b 133 (atomB C.L C.E R) := by
  intro deep i ns o w nv h P
  generalize hQ : EPost C b w nv o = Q
  have hpost : ∀ q nv' W, PS C b W o.i nv' o.ns ∧ PF b w nv W nv' ∧ TR w.heap.size nv' W (.pointer (some ⟨q, 0, none⟩)) o.t → Q (.returned (.pointer (some ⟨q, 0, none⟩))) W := fun q nv' W h => by rw [← hQ]; exact ⟨q, nv', rfl, h⟩
  clear hQ
  have cT := tok_c P
  have cA := fun W => startsAtom_c (tokAt C.L C.E i) W
  have htw := tokAt_wf P.ok i
  unfold atomB at h
  have hin := fun h => tokAt_kind (L := C.L) (E := C.E) (i := i) (atom_in h)
  generalize tokAt C.L C.E i = t at *
  have hk06 : startsAtomP t = true → t.kind = 1 ∨ t.kind = 2 ∨ t.kind = 3 ∨ t.kind = 4 ∨ (t.kind = 6 ∧ anyS atomSigns t.s = true) := fun hs => by
    unfold startsAtomP sgn at hs
    by_cases h6 : t.kind = 6
    · rw [if_pos h6] at hs
      rw [h6, decide_eq_false (by decide), Bool.false_or] at hs
      exact .inr (.inr (.inr (.inr ⟨h6, hs⟩)))
    · rw [if_neg h6, show anyS atomSigns (bs []) = false from by decide, Bool.or_false] at hs
      have := of_decide_eq_true hs
      omega
  obtain ⟨kd, nn, s0, a⟩ := t
  dsimp only at h hk06
  obtain ⟨hw1, hw2, hw3, hw4⟩ := htw
  dsimp only at hw1 hw2 hw3 hw4
  generalize hsa : startsAtomP ⟨kd, nn, s0, a⟩ = sa at *
  cases sa
  · rw [if_pos rfl] at h; cases h
  rw [if_neg (by simp)] at h
  have hi := hin rfl
  have hkd := hk06 rfl
  replace cT : Calls Tryz.prog 51 #[.pointer (some ⟨b, 0, none⟩)] w fun e w' => e = .returned (.agg #[.int .i64 kd, .int .i64 nn, .string s0, .int .i64 a]) ∧ Below w.heap.size w w' := cT
  replace cA : ∀ W, Calls Tryz.prog 80 #[.agg #[.int .i64 kd, .int .i64 nn, .string s0, .int .i64 a]] W fun e w' => e = .returned (.bool true) ∧ Below W.heap.size W w' := cA
  have hlen := P.ok.len
  have hbl := P.lt
  clear hin hk06
  replace cT := Lib.hid cT; replace cA := Lib.hid cA; replace hpost := Lib.hid hpost; replace hsa := Lib.hid hsa
  go_enter Tryz.func133, Tryz.ntmps133
  go_upto_region 2 with (go_at_call 51; (with_reducible refine (cT.out).mono ?_); rintro e w1 ⟨rfl, hb1⟩)
  obtain ⟨w2, hW2⟩ : ∃ W, W = w1.alloc (.cells #[.int .i64 kd, .int .i64 nn, .string s0, .int .i64 a] 75) := ⟨_, rfl⟩
  rw [← hW2]
  have hb2 : Below w1.heap.size w1 w2 := by rw [hW2]; go_grown
  have E2 : RowAt w2 w1.heap.size 0 [.int .i64 kd, .int .i64 nn, .string s0, .int .i64 a] := by rw [hW2]; exact RowAt.box w1 #[_, _, _, _] _
  have hz1 := hb1.size
  have hz2 : w1.heap.size < w2.heap.size := by rw [hW2]; simp
  have hw02 := hb1.trans (hb2.mono hz1)
  have P2 := P.below hw02
  obtain ⟨tb, htb⟩ : ∃ x, x = w1.heap.size := ⟨_, rfl⟩
  rw [← htb] at E2 hz1 hz2 ⊢
  clear hW2 hb2 hb1 htb
  obtain ⟨e2_0, e2_1, e2_2, e2_3⟩ := E2.box4; have hsE2 := World.block_lt_of_cell? _ _ e2_0; dsimp only at hsE2
  go_upto_region 6 with (go_at_call 80; (with_reducible refine (cA.out _).mono ?_); rintro e w3 ⟨rfl, hb3⟩; have P3 := P2.below hb3; have hw03 := hw02.trans (hb3.mono hw02.size); have E3 := E2.below hb3; obtain ⟨p_0, p_1, p_2, p_3, p_4, p_5, p_6⟩ := P3.row.box7p; have pf_1 := P3.wr.frz 1 (by omega); have hbl3 := P3.lt)
  have e1 : (i : Int) + 1 = ((i + 1 : Nat) : Int) := by omega
  rw [e1]
  have P4 := P3.setAt (j := i + 1) (by omega) (by omega)
  have F4 := (PF.of nv hw03 (Nat.le_of_lt hbl)).set 1 (.int .i64 ((i + 1 : Nat) : Int))
  have E4 := E3.kept (S := (· = b)) ((Kept.refl (· = b) w3).set (p := ⟨b, 1, none⟩) rfl (.int .i64 ((i + 1 : Nat) : Int))) (by omega)
  have hz3 := hb3.size
  have hz4 : (w3.setCell ⟨b, 1, none⟩ (.int .i64 ((i + 1 : Nat) : Int))).heap.size = w3.heap.size := by simp [World.setCell]
  generalize w3.setCell ⟨b, 1, none⟩ (.int .i64 ((i + 1 : Nat) : Int)) = w4 at *
  have htb4 : tb < w4.heap.size := by omega
  have hnt : nv.ownBlock ≠ some tb := P.fresh hz1
  clear P3 P2 E3 E2 p_0 p_1 p_2 p_3 p_4 p_5 p_6 pf_1 hbl3 e2_0 e2_1 e2_2 e2_3 hsE2 hw03 hw02 hb3 hz4 hz3 hz2
  obtain ⟨e4_0, e4_1, e4_2, e4_3⟩ := E4.box4; have hsE4 := World.block_lt_of_cell? _ _ e4_0; dsimp only at hsE4
  have hbl4 := P4.lt
  clear e1
  obtain ⟨i1, hi1⟩ : ∃ x, x = i + 1 := ⟨_, rfl⟩
  rw [← hi1] at h P4
  replace hi1 := Lib.hid hi1
  by_cases k1 : kd = 1
  · subst k1
    rw [if_pos rfl] at h
    obtain rfl := Option.some.inj h
    have hf := fin_leaf P4 F4 (exw (k := 1) (by omega) hw4 hw2 bs_ok) rfl
    replace hf := Lib.hid hf
    go_wp2_with fail
    exact hpost.out _ nv _ hf.out
  rw [if_neg k1] at h
  have d1 : (kd == 1) = false := beq_eq_false_iff_ne.2 k1
  by_cases k2 : kd = 2
  · rw [if_pos k2] at h; cases h
  rw [if_neg k2] at h
  have d2 : (kd == 2) = false := beq_eq_false_iff_ne.2 k2
  by_cases k3 : kd = 3
  · subst k3
    rw [if_pos rfl] at h
    obtain rfl := Option.some.inj h
    have hf := fin_leaf P4 F4 (exw (k := 3) (by omega) hw4 z64 hw3) rfl
    replace hf := Lib.hid hf
    go_wp2_with fail
    exact hpost.out _ nv _ hf.out
  rw [if_neg k3] at h
  have d3 : (kd == 3) = false := beq_eq_false_iff_ne.2 k3
  by_cases k4 : kd = 4
  · rw [if_pos k4] at h; cases h
  rw [if_neg k4] at h
  have d4 : (kd == 4) = false := beq_eq_false_iff_ne.2 k4
  obtain ⟨rfl, hany⟩ : kd = 6 ∧ anyS atomSigns s0 = true := by rcases hkd with h | h | h | h | h; exact absurd h k1; exact absurd h k2; exact absurd h k3; exact absurd h k4; exact h
  clear hkd k1 k2 k3 k4
  obtain ⟨a1, ha1⟩ : ∃ q, eqS s0 qOpenB = q := ⟨_, rfl⟩
  have c1 : (s0.toList == [91]) = a1 := (eqS_lit qOpenB rfl).trans ha1
  rw [ha1] at h
  cases a1
  · rw [if_neg (by simp)] at h
    obtain ⟨a2, ha2⟩ : ∃ q, eqS s0 qTrue = q := ⟨_, rfl⟩
    have c2 : (s0.toList == [116, 114, 117, 101]) = a2 := (eqS_lit qTrue rfl).trans ha2
    obtain ⟨a3, ha3⟩ : ∃ q, eqS s0 qFalse = q := ⟨_, rfl⟩
    have c3 : (s0.toList == [102, 97, 108, 115, 101]) = a3 := (eqS_lit qFalse rfl).trans ha3
    rw [ha2, ha3] at h
    by_cases htf : (a2 || a3) = true
    · rw [if_pos htf] at h
      obtain rfl := Option.some.inj h
      have hf := fin_leaf P4 F4 (exw (k := 4) (by omega) hw4 z64 hw3) rfl
      replace hf := Lib.hid hf
      cases a2
      · obtain rfl : a3 = true := by simpa using htf
        go_wp2_with fail
        exact hpost.out _ nv _ hf.out
      · go_wp2_with fail
        exact hpost.out _ nv _ hf.out
    · rw [if_neg htf] at h
      obtain ⟨rfl, rfl⟩ : a2 = false ∧ a3 = false := by simpa using htf
      have cS4 := fun W (hW : Below w4.heap.size w4 W) => sign_c (P4.below hW)
      obtain ⟨a4, ha4⟩ : ∃ q, eqS (sgn (tokAt C.L C.E i1)) qClose = q := ⟨_, rfl⟩
      have c4 : ((sgn (tokAt C.L C.E i1)).toList == [41]) = a4 := (eqS_lit qClose rfl).trans ha4
      have hin4 : a4 = true → i1 < C.L.length := fun h => (sgn_in (ha4.trans h) (by decide)).1
      rw [ha4] at h
      generalize sgn (tokAt C.L C.E i1) = sg4 at *
      replace cS4 := Lib.hid cS4; replace ha4 := Lib.hid ha4; replace ha1 := Lib.hid ha1; replace ha2 := Lib.hid ha2; replace ha3 := Lib.hid ha3; replace hany := Lib.hid hany
      cases a4
      · rw [if_neg (by simp)] at h
        obtain ⟨oa, hoa, h⟩ := Option.bind_eq_some_iff.1 h
        have hdeep := G.elim _ _ _ _ hoa
        have cX := fun W (hW : Below w4.heap.size w4 W) => G.expr (deep + 1) i1 ns oa W nv hoa (P4.below hW)
        rw [show ((deep + 1 : Nat) : Int) = (deep : Int) + 1 by omega] at cX
        replace cX := Lib.hid cX; replace hoa := Lib.hid hoa
        clear hin4
        go_upto_region 26 with (first
          | (go_at_call 46; (with_reducible refine (cS4.out _ (Below.refl _ _)).mono ?_); rintro e w5 ⟨rfl, hb5⟩; have F5 := F4.near hb5 (by omega); have E5 := E4.below hb5)
          | (go_at_call 35; (with_reducible refine (cX.out _ hb5).mono ?_); rintro e w6 ⟨q6, nv6, rfl, P6, F6, T6⟩))
        obtain ⟨ta, ia, nsa⟩ := oa
        dsimp only at h P6 T6
        have E6 := E5.pf F6 (by omega) hnt
        have FF6 := F5.trans F6
        have h56 := F6.size
        have T6' := T6.lower F5.size
        have hbl6 := P6.lt
        have cS6 := fun W (hW : Below w6.heap.size w6 W) => sign_c (P6.below hW)
        obtain ⟨a6, ha6⟩ : ∃ q, eqS (sgn (tokAt C.L C.E ia)) qComma = q := ⟨_, rfl⟩
        have c6 : ((sgn (tokAt C.L C.E ia)).toList != [44]) = !a6 := (neS_lit qComma rfl).trans (by rw [ha6])
        have c6e : ((sgn (tokAt C.L C.E ia)).toList == [44]) = a6 := (eqS_lit qComma rfl).trans ha6
        have h45 := hb5.size
        have hnt6 := F6.nt hnt (by omega)
        have hin6 : a6 = true → ia < C.L.length := fun h => (sgn_in (ha6.trans h) (by decide)).1
        rw [ha6] at h
        generalize sgn (tokAt C.L C.E ia) = sg6 at *
        clear e4_0 e4_1 e4_2 e4_3 hsE4 E5 hb5 E4 P4 F4 F5 F6 T6 cX
        replace cS6 := Lib.hid cS6; replace ha6 := Lib.hid ha6
        cases a6
        · replace c6 : (sg6.toList != [44]) = true := c6
          rw [if_neg (by simp)] at h
          obtain ⟨j, hj, ho⟩ := Option.map_eq_some_iff.1 h
          subst ho
          have cE := fun W (hW : Below w6.heap.size w6 W) => eat_c (P6.below hW) ⟨#[41]⟩ (by decide) hj
          replace cE := Lib.hid cE; replace hj := Lib.hid hj
          clear h hin6
          go_wp2_with (first
            | (go_at_call 46; (with_reducible refine (cS6.out _ (Below.refl _ _)).mono ?_); rintro e w7 ⟨rfl, hb7⟩)
            | (go_at_call 48; (with_reducible refine (cE.out _ hb7).mono ?_); rintro e w8 ⟨rfl, P8, F8⟩))
          exact hpost.out q6 nv6 _ ⟨P8, (FF6.near hb7 (by omega)).trans F8, (T6'.below hb7).step F8 (by omega)⟩
        · replace c6 : (sg6.toList != [44]) = false := c6
          rw [if_pos rfl] at h
          obtain ⟨ob, hob, h⟩ := Option.bind_eq_some_iff.1 h
          obtain ⟨j, hj, ho⟩ := Option.map_eq_some_iff.1 h
          subst ho
          obtain ⟨tb2, ib, nsb⟩ := ob
          dsimp only at hj hpost
          have hi6 := hin6 rfl
          clear h hin6
          replace hj := Lib.hid hj; replace hob := Lib.hid hob
          go_upto_region 30 with (go_at_call 46; (with_reducible refine (cS6.out _ (Below.refl _ _)).mono ?_); rintro e w7 ⟨rfl, hb7⟩; have P7 := P6.below hb7; obtain ⟨p_0, p_1, p_2, p_3, p_4, p_5, p_6⟩ := P7.row.box7p; have pf_1 := P7.wr.frz 1 (by omega); have hbl7 := P7.lt)
          obtain ⟨P8, F8⟩ := step_at P7 hi6
          have FF8 := (FF6.near hb7 (by omega)).trans F8
          have T8 := (T6'.below hb7).step F8 (by omega)
          have E8 := (E6.below hb7).pf F8 (by omega) hnt6
          have h78 := F8.size
          have h67 := hb7.size
          clear p_0 p_1 p_2 p_3 p_4 p_5 p_6 pf_1 P7 E6 P6 FF6 T6'
          generalize w7.setCell ⟨b, 1, none⟩ (.int .i64 ((ia : Int) + 1)) = w8 at *
          have hbl8 := P8.lt
          have cX8 := G.expr (deep + 1) (ia + 1) nsa _ w8 nv6 hob.out P8
          rw [show ((deep + 1 : Nat) : Int) = (deep : Int) + 1 by omega] at cX8
          replace cX8 := Lib.hid cX8
          go_upto_region 31 with (go_at_call 35; (with_reducible refine (cX8.out).mono ?_); rintro e w9 ⟨q9, nv9, rfl, P9, F9, T9⟩)
          have FF9 := FF8.trans F9
          have E9 := E8.pf F9 (by omega) hnt6
          have T8' := T8.step F9 (by omega)
          have T9' := T9.lower FF8.size
          have cE := eat_c P9 ⟨#[41]⟩ (by decide) hj.out
          have h89 := F9.size
          replace cE := Lib.hid cE
          clear P8 E8 T8 T9 cX8
          go_upto_region 32 with (go_at_call 48; (with_reducible refine (cE.out).mono ?_); rintro e w10 ⟨rfl, P10, F10⟩)
          have FF10 := FF9.trans F10
          have hnt9 := F9.nt hnt6 (by omega)
          have E10 := E9.pf F10 (by omega) hnt9
          have T8'' := T8'.step F10 (by omega)
          have T9'' := T9'.step F10 (by omega)
          have hbl10 := P10.lt
          obtain ⟨e10_0, e10_1, e10_2, e10_3⟩ := E10.box4; have hsE10 := World.block_lt_of_cell? _ _ e10_0; dsimp only at hsE10
          have hf := fin_node P10 FF10 (kd := 11) (at_ := a) (nn := 0) (s := bs []) (n := 2) (exw (by omega) hw4 z64 bs_ok) rfl rfl (by omega) (hk2 T8'' T9'') rfl
          replace hf := Lib.hid hf
          clear T8'' T9'' T8' T9' E9 P9 cE
          go_wp2_with fail
          exact hpost.out _ nv9 _ hf.out
      · rw [if_pos rfl] at h
        obtain rfl := Option.some.inj h
        have hi4 := hin4 rfl
        clear hin4
        go_upto_region 24 with (go_at_call 46; (with_reducible refine (cS4.out _ (Below.refl _ _)).mono ?_); rintro e w5 ⟨rfl, hb5⟩; have P5 := P4.below hb5; have E5 := E4.below hb5; obtain ⟨p_0, p_1, p_2, p_3, p_4, p_5, p_6⟩ := P5.row.box7p; have pf_1 := P5.wr.frz 1 (by omega); have hbl5 := P5.lt)
        obtain ⟨P6, F6⟩ := step_at P5 hi4
        have FF := (F4.near hb5 (by omega)).trans F6
        have E6 := E5.pf F6 (by omega) hnt
        clear p_0 p_1 p_2 p_3 p_4 p_5 p_6 pf_1 P5 E5
        generalize w5.setCell ⟨b, 1, none⟩ (.int .i64 ((i1 : Int) + 1)) = w6 at *
        obtain ⟨e6_0, e6_1, e6_2, e6_3⟩ := E6.box4; have hsE6 := World.block_lt_of_cell? _ _ e6_0; dsimp only at hsE6
        have hbl6 := P6.lt
        have hf := fin_leaf P6 FF (exw (k := 12) (by omega) hw4 z64 bs_ok) rfl
        replace hf := Lib.hid hf
        go_wp2_with fail
        exact hpost.out _ nv _ hf.out
  · rw [if_pos rfl] at h
    obtain ⟨j, hj, ho⟩ := Option.map_eq_some_iff.1 h
    subst ho
    have cE := eat_c P4 ⟨#[93]⟩ (by decide) hj
    replace cE := Lib.hid cE; replace hj := Lib.hid hj
    clear h
    go_upto_region 18 with (go_at_call 48; (with_reducible refine (cE.out).mono ?_); rintro e w5 ⟨rfl, P5, F5⟩)
    have E5 := E4.pf F5 (by omega) hnt
    have FF := F4.trans F5
    obtain ⟨e5_0, e5_1, e5_2, e5_3⟩ := E5.box4; have hsE5 := World.block_lt_of_cell? _ _ e5_0; dsimp only at hsE5
    have hf := fin_leaf P5 FF (exw (k := 4) (by omega) hw4 z64 (show StrOk qNil by unfold StrOk; decide)) rfl
    replace hf := Lib.hid hf
    go_wp2_with fail
    exact hpost.out _ nv _ hf.out
end Go.Proofs.YtcjoheplilaccaaGreat

/- The program's parser: all its functions, by the fuel. -/
namespace Go.Proofs.YtcjoheplilaccaaGreat
open Go.RowKit
set_option linter.unusedVariables false
set_option linter.unusedSimpArgs false

section
variable (L : List GTok) (E : Nat)
def pfsG : Nat → PFs
  | 0 => pfs0
  | f + 1 => { expr := exprB L E (pfsG f), set := setB L E (pfsG f), listed := listedB L E (pfsG f), chain := chainB L E (pfsG f), compared := comparedB L E (pfsG f), unary := unaryB L E (pfsG f), app := appB L E (pfsG f), atom := atomB L E (pfsG f), mtch := mtchG L E (pfsG f), pat := patB L E (pfsG f), patAtom := patAtomB L E (pfsG f) }
end
/-- The program of a text of the library. -/
def parseG (F : Nat) (l : List UInt8) : Option ExT :=
  (lexL F 0 l []).bind fun L => if eqS (sgn (tokAt L l.length 0)) qType then none else ((pfsG L l.length F).expr 0 0 []).bind fun a => if a.i = L.length then some a.t else none
theorem elim_B {L : List GTok} {E : Nat} {R : PFs} : ∀ deep i ns o, exprB L E R deep i ns = some o → deep ≤ 100 := fun deep i ns o h => by
  unfold exprB at h
  dsimp only at h
  split at h
  · cases h
  · split at h
    · cases h
    · omega
theorem plim_B {L : List GTok} {E : Nat} {R : PFs} : ∀ deep i ns o, patB L E R deep i ns = some o → deep ≤ 100 := fun deep i ns o h => by
  unfold patB at h
  split at h
  · cases h
  · split at h
    · cases h
    · omega
theorem good_pfs (C : PC) (b : Nat) : ∀ f, Good C b (pfsG C.L C.E f)
  | 0 => ⟨fun _ _ _ _ _ _ h => (by cases h), fun _ _ _ _ _ _ h => (by cases h), fun _ _ _ _ _ _ h => (by cases h), fun _ _ _ _ _ _ h => (by cases h), fun _ _ _ _ _ _ h => (by cases h), fun _ _ _ _ _ _ h => (by cases h), fun _ _ _ _ _ _ h => (by cases h),
      fun _ _ _ _ _ _ _ h => (by cases h), fun _ _ _ _ _ _ _ _ h => (by cases h), fun _ _ _ _ _ _ h => (by cases h), fun _ _ _ _ _ _ h => (by cases h), fun _ _ _ _ h => (by cases h), fun _ _ _ _ h => (by cases h)⟩
  | f + 1 =>
    have G := good_pfs C b f
    ⟨expr_g G, set_g G, listed_g G, compared_g G, unary_g G, app_g G, atom_g G, chain_g G, mtch_g G, pat_g G, patAtom_g G, elim_B, plim_B⟩
end Go.Proofs.YtcjoheplilaccaaGreat

/- The program's tooMany: a program without types that is not too large. -/
namespace Go.Proofs.YtcjoheplilaccaaGreat
open Go.RowKit
set_option linter.unusedVariables false
set_option linter.unusedSimpArgs false
attribute [local go_sem] Ext.cell

set_option maxRecDepth 100000 in
set_option maxHeartbeats 8000000 in
theorem tooMany_c (N : List GNode) (hN : N.length ≤ 600) (hp : ∀ x ∈ N, x.pats.length ≤ 1048576 ∧ ∀ q ∈ x.pats, q.nodes.length ≤ 600) (ta : Option Addr) (tc : Nat) (nv : Value) (lo : Nat) (w : World) (hr : Sl GNode.R 6 lo w nv N) :
    Calls Tryz.prog 38 #[.agg #[.slice ta 0 tc, nv]] w fun e w' => e = .returned (.bool false) ∧ Below w.heap.size w w' := by
  obtain ⟨na, nc, rfl, ul, um, h0⟩ := hr
  obtain ⟨n, hn⟩ : ∃ n, n = N.length := ⟨_, rfl⟩
  rw [← hn] at ul hN ⊢
  have hkk : ∀ W, Below w.heap.size w W → SlAt GNode.R 6 lo W na N := fun W hW => h0.below GNode.good hW
  clear h0
  replace hn := Lib.hid hn; replace hp := Lib.hid hp; replace hkk := Lib.hid hkk
  have dn : decide ((600 : Int) < (n : Int)) = false := decide_eq_false (by omega)
  have dn2 : decide (600 < n) = false := decide_eq_false (by omega)
  go_enter Tryz.func38, Tryz.ntmps38
  go_upto_region 1 with fail
  have D : RowAt (w.alloc (.cells #[.slice ta 0 tc, .slice na n nc] 46)) (w.heap.size) 0 [.slice ta 0 tc, .slice na n nc] := RowAt.box w #[.slice ta 0 tc, .slice na n nc] 46
  have hw : Below w.heap.size w (w.alloc (.cells #[.slice ta 0 tc, .slice na n nc] 46)) := by go_grown
  generalize (w.alloc (.cells #[.slice ta 0 tc, .slice na n nc] 46)) = w0 at *
  obtain ⟨d_0, d_1⟩ := D.box2; have hsD := World.block_lt_of_cell? _ _ d_0; dsimp only at hsD
  go_wp2_with fail
  go_loopw [12] (fun ii wr => ii = .int .i64 0 ∧ wr = w0) (fun ii _ => 0)
  case atStart => exact ⟨rfl, rfl⟩
  case round =>
    obtain ⟨rfl, rfl⟩ := hrel
    go_wp2_with fail
    go_loopw [24] (fun ii wr => ∃ k : Nat, k ≤ n ∧ ii = .int .i64 k ∧ Below w.heap.size w wr ∧ RowAt wr w.heap.size 0 [.slice ta 0 tc, .slice na n nc]) (fun ii _ => n - (intOf ii).toNat)
    case atStart => exact ⟨0, by omega, rfl, hw, D⟩
    case round =>
      clear hw D d_0 d_1 hsD
      obtain ⟨k, hk, rfl, hw, D⟩ := hrel
      have hsz := hw.size
      obtain ⟨d_0, d_1⟩ := D.box2; have hsD := World.block_lt_of_cell? _ _ d_0; dsimp only at hsD
      by_cases hlt : k < n
      · obtain ⟨b1, o1, x, r, _, rfl, P1, hx, r1⟩ := (hkk.out _ hw).get hn.out hlt
        have P1' := P1.out
        obtain ⟨hxl, hxs⟩ := hp.out x (List.mem_of_getElem? P1')
        obtain ⟨v0, v1, rfl, hwf, hk0, hp0⟩ := hx
        obtain ⟨kd, at_, nn, s, ks, ps⟩ := x
        dsimp only at hxl hxs hk0 hp0 r1
        obtain ⟨ka, kc, rfl⟩ := hk0.form
        obtain ⟨pm, hpm⟩ : ∃ m, m = ps.length := ⟨_, rfl⟩
        obtain ⟨pa, pc, rfl, pl, pmm, p0⟩ := hp0
        rw [← hpm] at pl hxl r1
        have hpp : ∀ W, Below wr.heap.size wr W → SlAt GPat.R 1 lo W pa ps := fun W hW => p0.below GPat.good hW
        obtain ⟨e_0, e_1, e_2, e_3, e_4, e_5⟩ := r1.cells6
        have hbb1 := World.block_lt_of_cell? _ _ e_0; dsimp only at hbb1
        clear hk0 p0 hwf r1 P1 P1'
        generalize ks.length = m at *
        replace hpm := Lib.hid hpm; replace hpp := Lib.hid hpp; replace hxs := Lib.hid hxs
        go_upto_region 10 with fail
        have hb1 : Below wr.heap.size wr (wr.alloc (.cells #[.int .i64 kd, .int .i64 at_, .int .i64 nn, .string s, .slice ka m kc, .slice pa pm pc] 100)) := by go_grown
        have E : RowAt (wr.alloc (.cells #[.int .i64 kd, .int .i64 at_, .int .i64 nn, .string s, .slice ka m kc, .slice pa pm pc] 100)) wr.heap.size 0 [.int .i64 kd, .int .i64 at_, .int .i64 nn, .string s, .slice ka m kc, .slice pa pm pc] := RowAt.box _ _ _
        have hw' := hw.trans (hb1.mono hsz)
        have D' := D.below hb1
        have hz2 : wr.heap.size < (wr.alloc (.cells #[.int .i64 kd, .int .i64 at_, .int .i64 nn, .string s, .slice ka m kc, .slice pa pm pc] 100)).heap.size := by simp
        generalize wr.alloc (.cells #[.int .i64 kd, .int .i64 at_, .int .i64 nn, .string s, .slice ka m kc, .slice pa pm pc] 100) = w2 at *
        clear hw D d_0 d_1 hsD e_0 e_1 e_2 e_3 e_4 e_5
        obtain ⟨e_0, e_1, e_2, e_3, e_4, e_5⟩ := E.box6; have hsE := World.block_lt_of_cell? _ _ e_0; dsimp only at hsE
        have hpp2 : ∀ W, Below w2.heap.size w2 W → SlAt GPat.R 1 lo W pa ps := fun W hW => hpp.out W (hb1.trans (hW.mono (by omega)))
        replace hpp2 := Lib.hid hpp2
        clear hpp hb1 hz2 hsz
        go_upto_region 11 with fail
        go_loopw [31] (fun ii wq => ∃ j : Nat, j ≤ pm ∧ ii = .int .i64 j ∧ Below w2.heap.size w2 wq) (fun ii _ => pm - (intOf ii).toNat)
        case atStart => exact ⟨0, by omega, rfl, Below.refl _ _⟩
        case round =>
          obtain ⟨j, hj, rfl, hwq⟩ := hrel
          by_cases hjt : j < pm
          · obtain ⟨b2, o2, y, r2, _, rfl, P2, hy, r2'⟩ := (hpp2.out _ hwq).get hpm.out hjt
            have hq := hxs.out y (List.mem_of_getElem? P2.out)
            obtain ⟨v2, rfl, _, hy0⟩ := hy
            obtain ⟨ya, yc, rfl⟩ := hy0.form
            generalize y.nodes.length = yn at *
            have f_0 : wr.cell? ⟨b2, o2 + j, none⟩ = some (.slice ya yn yc) := by simpa using r2' 0 _ rfl
            have hbb2 := World.block_lt_of_cell? _ _ f_0; dsimp only at hbb2
            have dq : decide ((600 : Int) < (yn : Int)) = false := decide_eq_false (by omega)
            have dq2 : decide (600 < yn) = false := decide_eq_false (by omega)
            clear hy0 r2' P2
            go_wp2_with fail
            go_roundw
            case rel => exact ⟨j + 1, by omega, by go_num, hwq.trans (Below.mono (by go_grown) hwq.size)⟩
            case measure => simp [intOf]; omega
          · obtain rfl : j = pm := by omega
            have hw3 := hw'.trans (hwq.mono hw'.size)
            have D3 := D'.below hwq
            go_wp2_with fail
            go_roundw
            case rel => exact ⟨k + 1, by omega, by go_num, hw3, D3⟩
            case measure => simp [intOf]; omega
      · obtain rfl : k = n := by omega
        go_wp2_with fail
        go_returns
        exact ⟨rfl, by go_grown⟩
end Go.Proofs.YtcjoheplilaccaaGreat

/- The text of a number: digits, the reversal of bytes, NumText of both. -/
namespace Go.Proofs.YtcjoheplilaccaaGreat
open Go.RowKit
set_option linter.unusedVariables false
set_option linter.unusedSimpArgs false
attribute [local go_sem] Ext.cell

def bval (b : UInt8) : Value := .int .u8 b.toNat
/-- Block g begins with these bytes, which may be written. -/
def BytesAt (w : World) (g n : Nat) (f : Nat → UInt8) : Prop := ∀ j, j < n → w.cell? ⟨g, j, none⟩ = some (.int .u8 (f j).toNat) ∧ w.frozen? ⟨g, j, none⟩ = false
theorem BytesAt.set {w : World} {g n : Nat} {f : Nat → UInt8} (h : BytesAt w g n f) {o : Nat} (ho : o < n) (b : UInt8) : BytesAt (w.setCell ⟨g, o, none⟩ (.int .u8 b.toNat)) g n (fun j => if j = o then b else f j) := fun j hj => by
  refine ⟨?_, by rw [frozen_setCell]; exact (h j hj).2⟩
  dsimp only
  by_cases e : j = o
  · subst e
    rw [if_pos rfl]
    exact cell_setCell_eq _ _ _ _ (h j hj).1
  · rw [if_neg e, cell_setCell_ne _ _ _ _ _ (by omega)]
    exact (h j hj).1
theorem BytesAt.congr {w : World} {g n : Nat} {f f' : Nat → UInt8} (h : BytesAt w g n f) (e : ∀ j, j < n → f j = f' j) : BytesAt w g n f' := fun j hj => by rw [← e j hj]; exact h j hj
theorem BytesAt.drew {w : World} {g n : Nat} {f : Nat → UInt8} (h : BytesAt w g n f) : BytesAt w.drew g n f := fun j hj => h j hj

/-- Where a byte comes from when i pairs are exchanged. -/
def src (n i p : Nat) : Nat := if p < i ∨ n ≤ p + i then n - 1 - p else p

theorem src_step (f : Nat → UInt8) {n i j p : Nat} (hj : (n : Int) - 1 - i = j) (hij : i < j) (hp : p < n) :
    (if p = j then f (src n i i) else if p = i then f (src n i j) else f (src n i p)) = f (src n (i + 1) p) := by
  have h1 : src n i i = i := by unfold src; rw [if_neg (by omega)]
  have h2 : src n i j = j := by unfold src; rw [if_neg (by omega)]
  rw [h1, h2]
  by_cases e1 : p = j
  · rw [if_pos e1]; congr 1; unfold src; rw [if_pos (by omega)]; omega
  · rw [if_neg e1]
    by_cases e2 : p = i
    · rw [if_pos e2]; congr 1; unfold src; rw [if_pos (by omega)]; omega
    · rw [if_neg e2]; congr 1; unfold src
      by_cases e3 : p < i ∨ n ≤ p + i
      · rw [if_pos e3, if_pos (by omega)]
      · rw [if_neg e3, if_neg (by omega)]
theorem src_step' (f : Nat → UInt8) {n i j p : Nat} (hj : (n : Int) - 1 - i = j) (hij : i < j) (hp : p < n) :
    (if p = i then f (src n i j) else if p = j then f (src n i i) else f (src n i p)) = f (src n (i + 1) p) := by
  rw [← src_step f hj hij hp]
  by_cases e1 : p = j
  · rw [if_neg (by omega), if_pos e1, if_pos e1]
  · rw [if_neg e1, if_neg e1]

set_option maxRecDepth 100000 in
set_option maxHeartbeats 4000000 in
theorem reverseB_c (g n cap : Nat) (f : Nat → UInt8) (hn : n ≤ 1152921504606846976) (hc : n ≤ cap) (w : World) (h : BytesAt w g n f) :
    Calls Tryz.prog 126 #[.slice (some ⟨g, 0, none⟩) n cap] w fun e w' => e = .returned (.tuple #[]) ∧ BytesAt w' g n (fun j => f (n - 1 - j)) ∧ Below g w w' ∧ w.heap.size ≤ w'.heap.size := by
  replace h := Lib.hid h
  go_enter Tryz.func126, Tryz.ntmps126
  go_wp2_with fail
  go_loopw [2, 3] (fun a b wr => ∃ i : Nat, 2 * i ≤ n + 1 ∧ a = .int .i64 i ∧ b = .int .i64 ((n : Int) - 1 - i) ∧ Hid (BytesAt wr g n fun p => f (src n i p)) ∧ Below g w wr ∧ w.heap.size ≤ wr.heap.size) (fun a _ _ => n - (intOf a).toNat)
  case atStart => exact ⟨0, by omega, by simp, by simp, h.out.congr (fun j hj => by unfold src; rw [if_neg (by omega)]), Below.refl _ _, Nat.le_refl _⟩
  case round =>
    obtain ⟨i, hi, rfl, rfl, hB, hw, hs⟩ := hrel
    by_cases hlt : (i : Int) < (n : Int) - 1 - i
    · obtain ⟨j, hj⟩ : ∃ j : Nat, (n : Int) - 1 - i = j := ⟨n - 1 - i, by omega⟩
      rw [hj] at hlt
      have hjn : j < n := by omega
      have hin : i < n := by omega
      have hij : i < j := by omega
      obtain ⟨e1, e2⟩ := hB.out i hin
      obtain ⟨e3, e4⟩ := hB.out j hjn
      rw [hj]
      have hBi := (hB.out.set hin (f (src n i j))).set hjn (f (src n i i))
      have hBj := (hB.out.set hjn (f (src n i i))).set hin (f (src n i j))
      replace hBi := Lib.hid hBi; replace hBj := Lib.hid hBj
      replace hj := Lib.hid hj
      go_wp2_with fail
      go_region
      all_goals go_wp2_with fail
      all_goals
        go_roundw
        case rel =>
          have h := hj.out
          refine ⟨i + 1, by omega, by go_num, by congr 1; omega, ?_, by go_grown, by simpa using hs⟩
          first
            | exact hBi.out.drew.congr fun p hp => src_step f h hij hp
            | exact hBj.out.drew.congr fun p hp => src_step' f h hij hp
        case measure => simp [intOf]; omega
    · have hfin := hB.out.congr (f' := fun j => f (n - 1 - j)) fun p hp => by unfold src; congr 1; split <;> omega
      replace hfin := Lib.hid hfin
      go_wp2_with fail
      go_returns
      exact ⟨rfl, hfin.out, hw, hs⟩

end Go.Proofs.YtcjoheplilaccaaGreat
