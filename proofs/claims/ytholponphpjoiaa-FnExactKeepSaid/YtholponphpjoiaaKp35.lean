/- Parts of the proof, merged: KeepLaw. -/
import Derived.Test.YtholponphpjoiaaKp34
/- The law Keep. -/
namespace Go.Proofs.Ytholponphpjoiaa
open Go.RowKit
set_option linter.unusedVariables false
set_option linter.unusedSimpArgs false
attribute [local go_sem] Ext.cell

namespace fnExactKeep
set_option maxRecDepth 100000 in
set_option maxHeartbeats 16000000 in
theorem law (x0 : GCode) (ps : List Int) (r0 : List Value) (u : Value) (w : World) (hx0 : GCode.R 0 w r0 x0) (hps : Sl IntR 1 0 w u ps) :
    Calls Try.prog 5 #[.agg r0.toArray, u] w fun en w' => en = .returned (.bool true) ∧ Below w.heap.size w w' := by
  have Hx0 := hx0
  obtain ⟨u0, u1, rfl, -, a0, a1⟩ := hx0
  obtain ⟨ua, uc, rfl⟩ := a0.form
  obtain ⟨ub, ud, rfl⟩ := a1.form
  clear a0 a1
  have Hps := hps
  obtain ⟨pva, pvc, rfl⟩ := hps.form
  clear hps
  have z0 := GCode.bulk_nonneg x0
  by_cases hlen : ps.length ≤ 1048576
  rotate_left
  · have dl : decide ((1048576 : Int) < (ps.length : Int)) = true := decide_eq_true (by omega)
    have dl2 : decide (1048576 < ps.length) = true := decide_eq_true (by omega)
    clear hlen
    go_enter Try.func5, Try.ntmps5
    go_wp2_with fail
    go_returns
    exact ⟨rfl, by go_grown⟩
  have dl : decide ((1048576 : Int) < (ps.length : Int)) = false := decide_eq_false (by omega)
  have dl2 : decide (1048576 < ps.length) = false := decide_eq_false (by omega)
  obtain ⟨np, hnp⟩ : ∃ x, x = ps.length := ⟨_, rfl⟩
  have hlenI : (ps.length : Int) ≤ 1048576 := by omega
  have hlen2 := hlen
  rw [← hnp] at dl dl2 hlen2 ⊢
  replace hnp := Lib.hid hnp
  go_enter Try.func5, Try.ntmps5
  go_upto_region 1 with fail
  have B : RowAt (w.alloc (.cells #[.slice ua x0.ins.length uc, .slice ub x0.pats.length ud] 25)) (w.heap.size) 0 [.slice ua x0.ins.length uc, .slice ub x0.pats.length ud] := RowAt.box w #[.slice ua x0.ins.length uc, .slice ub x0.pats.length ud] 25
  have hw : Below w.heap.size w (w.alloc (.cells #[.slice ua x0.ins.length uc, .slice ub x0.pats.length ud] 25)) := by go_grown
  generalize (w.alloc (.cells #[.slice ua x0.ins.length uc, .slice ub x0.pats.length ud] 25)) = w0 at *
  obtain ⟨b_0, b_1⟩ := B.box2; have hsB := World.block_lt_of_cell? _ _ b_0; dsimp only at hsB
  go_wp2_with fail
  refine (szCode_c x0 _ 0 _ (by omega) (by omega) _ (GCode.good.below Hx0 hw)).mono ?_
  rintro en w1 ⟨n1, rfl, (⟨g0, rfl⟩ | ⟨g0, rfl⟩), hb⟩
  rotate_left
  · replace hw : Below w.heap.size w w1 := hw.trans (hb.mono hw.size)
    go_wp2
    go_returns
    exact ⟨rfl, hw⟩
  have hw := hw.trans (hb.mono hw.size); have B := B.below hb; obtain ⟨b_0, b_1⟩ := B.box2; have hsB := World.block_lt_of_cell? _ _ b_0; dsimp only at hsB; clear hb
  have hB0 := hsB
  have hcc := codeCopy_bulk g0
  have cT := fun W (hW : Below w.heap.size w W) => toCode_o x0 _ 0 g0 W (GCode.good.below Hx0 hW)
  have cTI := fun W (hW : Below w.heap.size w W) => toIntS_o ps _ 0 hlenI W (Hps.below IntR.good hW)
  have cS := fun (r : List Value) (v : Value) (W : World) (hr : GCode.R 0 W r x0) (hv : Sl IntR 1 0 W v ps) => specKeep_o x0 hcc ps hlen r v 0 W hr hv
  have cI := fun (r : List Value) (v : Value) (W : World) (hr : GCode.R 0 W r x0) (hv : Sl IntR 1 0 W v ps) => Keep_o x0 hcc ps hlen r v 0 W hr hv
  obtain ⟨hk0, hl0⟩ := cnt_ok2 g0 x0 hcc.1 (.inl rfl)
  obtain ⟨hk1, hl1⟩ := cnt_ok2 g0 _ (keepP_sub x0 ps hlen).1 (keepP_sub x0 ps hlen).2
  have hkx : cntCode x0 ≤ 1048576 * 4 + 1048576 * (1048576 * 1048579) := cnt_le g0
  unfold KeepPost at cS cI
  have hd : (decide ((1048576 : Int) - x0.bulk < 0)) = false := decide_eq_false (by omega)
  generalize hz1 : (1048576 : Int) - x0.bulk = n1 at *
  clear hz1 z0 g0 hcc hlen hlenI
  generalize hy : (keepP x0 ps).getD ⟨[], []⟩ = y at *
  generalize hyb : (keepP x0 ps).isSome = yb at *
  clear hy hyb
  rw [← hnp.out] at cTI
  replace cT := Lib.hid cT; replace cTI := Lib.hid cTI; replace cS := Lib.hid cS; replace cI := Lib.hid cI; replace hk0 := Lib.hid hk0; replace hl0 := Lib.hid hl0; replace hk1 := Lib.hid hk1; replace hl1 := Lib.hid hl1; replace Hx0 := Lib.hid Hx0; replace Hps := Lib.hid Hps; replace hkx := Lib.hid hkx
  -- the reference's result
  go_upto_region 8 with (first
    | (go_at_call 9; (with_reducible refine (cT.out _ hw).mono ?_); rintro en w2 ⟨rt, bt, rfl, OT, -, fT, hb⟩; have RT := GCode.ok.read OT fT; have hw2 := hw.trans (hb.mono hw.size); have hz2 := hb.size; have B2 := B.below hb)
    | (go_at_call 17; (with_reducible refine (cTI.out _ hw2).mono ?_); rintro en w22 ⟨tv, bti, rfl, OTI, -, fTI, hb⟩; obtain ⟨tva, tvc, htv⟩ := OTI.form; rw [← hnp.out] at htv; subst htv; have RTI := OTI.sl (flatO_ok flatInt) fTI; have RT := GCode.good.below RT hb; have hw22 := hw2.trans (hb.mono hw2.size); have hz22 := hb.size; have B22 := B2.below hb)
    | (go_at_call 16; (with_reducible refine (cS.out _ _ _ (GCode.good.mono RT (Nat.zero_le _)) (RTI.mono IntR.good (Nat.zero_le _))).mono ?_); rintro en w3 ⟨rs, bs, rfl, OS, -, fS, hb⟩; have RS := GCode.ok.read OS fS; obtain ⟨s0, s1, rfl, -, f0, f1⟩ := id RS; obtain ⟨sa, sc, rfl⟩ := f0.form; obtain ⟨sb, sd, rfl⟩ := f1.form; clear f0 f1; have hw3 := hw22.trans (hb.mono hw22.size); have hz3 := hb.size; have B3 := B22.below hb))
  obtain ⟨w4, hW4⟩ : ∃ W, W = w3.alloc (.cells #[.slice sa y.ins.length sc, .slice sb y.pats.length sd] 31) := ⟨_, rfl⟩
  rw [← hW4]
  have hb4 : Below w3.heap.size w3 w4 := by rw [hW4]; go_grown
  have S : RowAt w4 w3.heap.size 0 [.slice sa y.ins.length sc, .slice sb y.pats.length sd] := by rw [hW4]; exact RowAt.box w3 #[_, _] _
  have hs4 : w3.heap.size < w4.heap.size := by rw [hW4]; simp
  have hB4 : w.heap.size < w4.heap.size := by omega
  have RS := GCode.good.below RS hb4
  have B4 := B3.below hb4
  have hw4 := hw3.trans (hb4.mono hw3.size)
  obtain ⟨b4, hb4'⟩ : ∃ x, x = w3.heap.size := ⟨_, rfl⟩
  rw [← hb4'] at S hs4 ⊢
  clear hW4 hb4 OT fT RT OS fS OTI fTI RTI B2 B22 B3 hw3 hw2 hw22 b_0 b_1 hsB B hw
  replace RS := Lib.hid RS; replace hb4' := Lib.hid hb4'
  obtain ⟨b4_0, b4_1⟩ := B4.box2; have hsB4 := World.block_lt_of_cell? _ _ b4_0; dsimp only at hsB4
  -- the arguments' copies
  go_upto_region 9 with (go_at_call 9; (with_reducible refine (cT.out _ hw4).mono ?_); rintro en w5 ⟨rx, bx, rfl, OX, ndX, fX, hb5⟩; obtain ⟨x0v, p0, x1v, p1, rfl, hp, -, f0, f1⟩ := id OX; obtain ⟨xa, xc, rfl⟩ := f0.form; obtain ⟨xb, xd, rfl⟩ := f1.form; clear f0 f1)
  have ltX := GCode.ok.lt OX
  obtain ⟨w6, hW6⟩ : ∃ W, W = w5.alloc (.cells #[.slice xa x0.ins.length xc, .slice xb x0.pats.length xd] 31) := ⟨_, rfl⟩
  rw [← hW6]
  have hb6 : Below w5.heap.size w5 w6 := by rw [hW6]; go_grown
  have X : RowAt w6 w5.heap.size 0 [.slice xa x0.ins.length xc, .slice xb x0.pats.length xd] := by rw [hW6]; exact RowAt.box w5 #[_, _] _
  have hs6 : w5.heap.size < w6.heap.size := by rw [hW6]; simp
  have F6 : Below w4.heap.size w4 w6 := hb5.trans (hb6.mono hb5.size)
  have OX := GCode.ok.below OX hb6
  have hz5 := hb5.size
  obtain ⟨b5, hb5'⟩ : ∃ x, x = w5.heap.size := ⟨_, rfl⟩
  rw [← hb5'] at X hs6 ltX hz5 ⊢
  clear hW6 hb6 hb5 hp b4_0 b4_1 hsB4
  replace hb5' := Lib.hid hb5'
  have hw6 := hw4.trans (F6.mono hw4.size)
  go_upto_region 10 with (go_at_call 17; (with_reducible refine (cTI.out _ hw6).mono ?_); rintro en w62 ⟨pv, bp, rfl, OP, ndP, fP, hb62⟩; obtain ⟨pva, pvc, hpv⟩ := OP.form; rw [← hnp.out] at hpv; subst hpv; skip)
  have ltP := OP.lt (flatO_ok flatInt)
  have hz62 := hb62.size
  have F62 : Below w4.heap.size w4 w62 := F6.trans (hb62.mono F6.size)
  have OX := GCode.ok.below OX hb62
  have X := X.below hb62
  have RP := OP.sl (flatO_ok flatInt) fP
  replace OX := Lib.hid OX; replace ndX := Lib.hid ndX; replace fX := Lib.hid fX; replace ltX := Lib.hid ltX
  replace OP := Lib.hid OP; replace ndP := Lib.hid ndP; replace fP := Lib.hid fP; replace ltP := Lib.hid ltP
  have RX := Lib.hid (GCode.ok.read OX.out fX.out)
  replace RP := Lib.hid RP
  clear hb62
  obtain ⟨x_0, x_1⟩ := X.box2; have hsX := World.block_lt_of_cell? _ _ x_0; dsimp only at hsX
  -- the program's result
  go_upto_region 11 with (go_at_call 18; (with_reducible refine (cI.out _ _ _ (GCode.good.mono RX.out (Nat.zero_le _)) (RP.out.mono IntR.good (Nat.zero_le _))).mono ?_); rintro en w7 ⟨rg, bg, rfl, OG, ndG, fG, hb7⟩; obtain ⟨g0v, p0, g1v, p1, rfl, hp, -, f0, f1⟩ := id OG; obtain ⟨ga, gc, rfl⟩ := f0.form; obtain ⟨gb, gd, rfl⟩ := f1.form; clear f0 f1)
  have ltG := GCode.ok.lt OG
  obtain ⟨w8, hW8⟩ : ∃ W, W = w7.alloc (.cells #[.slice ga y.ins.length gc, .slice gb y.pats.length gd] 31) := ⟨_, rfl⟩
  rw [← hW8]
  have hb8 : Below w7.heap.size w7 w8 := by rw [hW8]; go_grown
  have G : RowAt w8 w7.heap.size 0 [.slice ga y.ins.length gc, .slice gb y.pats.length gd] := by rw [hW8]; exact RowAt.box w7 #[_, _] _
  have hs8 : w7.heap.size < w8.heap.size := by rw [hW8]; simp
  have F68 : Below w62.heap.size w62 w8 := hb7.trans (hb8.mono hb7.size)
  have F8 : Below w4.heap.size w4 w8 := F62.trans (F68.mono F62.size)
  have OG := GCode.ok.below OG hb8
  have OX8 := GCode.ok.below OX.out F68
  have OP8 := OP.out.below (flatO_ok flatInt) F68
  have X8 := X.below F68
  have S8 := S.below F8
  have B8 := B4.below F8
  have hz7 := hb7.size
  obtain ⟨b6, hb6'⟩ : ∃ x, x = w7.heap.size := ⟨_, rfl⟩
  rw [← hb6'] at G hs8 ltG hz7 ⊢
  clear hW8 hb8 hb7 hp x_0 x_1 hsX OX RX OP RP
  replace OG := Lib.hid OG; replace ndG := Lib.hid ndG; replace fG := Lib.hid fG; replace ltG := Lib.hid ltG; replace hb6' := Lib.hid hb6'; replace OX8 := Lib.hid OX8; replace OP8 := Lib.hid OP8
  have cE := fun (r : List Value) (lo : Nat) W (hr : GCode.R lo W r y) (hF : Below w4.heap.size w4 W) => eqCode_eq y r [.slice sa y.ins.length sc, .slice sb y.pats.length sd] lo _ W hr (GCode.good.below RS.out hF)
  have cE0 := fun (r r2 : List Value) (lo lo2 : Nat) W (hr : GCode.R lo W r x0) (hr2 : GCode.R lo2 W r2 x0) => eqCode_eq x0 r r2 lo lo2 W hr hr2
  have cEI := fun (u v : Value) (lo lo2 : Nat) W (hr : Sl IntR 1 lo W u ps) (hr2 : Sl IntR 1 lo2 W v ps) => intS_eq ps u v lo lo2 W hr hr2
  replace cE := Lib.hid cE; replace cE0 := Lib.hid cE0; replace cEI := Lib.hid cEI
  have hzz := F8.size
  have h46 := F6.size
  obtain ⟨g_0, g_1⟩ := G.box2; have hsG := World.block_lt_of_cell? _ _ g_0; dsimp only at hsG; obtain ⟨s8_0, s8_1⟩ := S8.box2; have hsS8 := World.block_lt_of_cell? _ _ s8_0; dsimp only at hsS8
  go_upto_region 13 with (go_at_call 11; (with_reducible refine (cE.out _ _ _ (GCode.ok.read OG.out fG.out) F8).mono ?_); rintro en w9 ⟨rfl, hb9⟩)
  have F9 := F8.trans (hb9.mono F8.size)
  have hw9 := hw4.trans (F9.mono hw4.size)
  have OG9 := Lib.hid (GCode.ok.below OG.out hb9)
  have OX9 := Lib.hid (GCode.ok.below OX8.out hb9)
  have OP9 := Lib.hid (OP8.out.below (flatO_ok flatInt) hb9)
  have G9 := G.below hb9
  have S9 := S8.below hb9
  have X9 := X8.below hb9
  have B9 := B8.below hb9
  have hz9 := hb9.size
  clear g_0 g_1 hsG s8_0 s8_1 hsS8 OG OX8 OP8 hb9
  obtain ⟨b9_0, b9_1⟩ := B9.box2; have hsB9 := World.block_lt_of_cell? _ _ b9_0; dsimp only at hsB9; obtain ⟨x9_0, x9_1⟩ := X9.box2; have hsX9 := World.block_lt_of_cell? _ _ x9_0; dsimp only at hsX9
  -- the arguments are as they were
  go_region_held3 (fun w' => w'.cell? ⟨b5, 0, none⟩ = some (.slice xa x0.ins.length xc) ∧ w'.cell? ⟨b5, 1, none⟩ = some (.slice xb x0.pats.length xd) ∧ w'.cell? ⟨w.heap.size, 0, none⟩ = some (.slice ua x0.ins.length uc) ∧ w'.cell? ⟨w.heap.size, 1, none⟩ = some (.slice ub x0.pats.length ud)) (first | exact ⟨x9_0, x9_1, b9_0, b9_1⟩ | go_keep)
    (first
      | (go_at_call 9; (with_reducible refine (cT.out _ (hw9.trans (by go_grown))).mono ?_); rintro en w10 ⟨rt, bt, rfl, OT, -, fT, hb10⟩; have hb10' : Below w9.heap.size w9 w10 := (show Below w9.heap.size w9 w9.drew by go_grown).trans (hb10.mono (by go_grown)); have RT := Lib.hid (GCode.ok.read OT fT); have X10 := X9.below hb10'; have B10 := B9.below hb10'; obtain ⟨x10_0, x10_1⟩ := X10.box2; have hsX10 := World.block_lt_of_cell? _ _ x10_0; dsimp only at hsX10; obtain ⟨b10_0, b10_1⟩ := B10.box2; have hsB10 := World.block_lt_of_cell? _ _ b10_0; dsimp only at hsB10; clear OT fT hb10)
      | (go_at_call 11; (with_reducible refine (cE0.out _ _ _ _ _ (GCode.ok.read (GCode.ok.below OX9.out hb10') fX.out) RT.out).mono ?_); rintro en w11 ⟨rfl, hb11⟩; have hb911 : Below w9.heap.size w9 w11 := hb10'.trans (hb11.mono hb10'.size); have X11 := X9.below hb911; have B11 := B9.below hb911; obtain ⟨x11_0, x11_1⟩ := X11.box2; have hsX11 := World.block_lt_of_cell? _ _ x11_0; dsimp only at hsX11; obtain ⟨b11_0, b11_1⟩ := B11.box2; have hsB11 := World.block_lt_of_cell? _ _ b11_0; dsimp only at hsB11))
  all_goals
    have F11 := F9.trans (hb911.mono F9.size)
    have hw11 := hw4.trans (F11.mono hw4.size)
    have G11 := G9.below hb911
    have S11 := S9.below hb911
    have OG11 := Lib.hid (GCode.ok.below OG9.out hb911)
    have OX11 := Lib.hid (GCode.ok.below OX9.out hb911)
    have OP11 := OP9.out.below (flatO_ok flatInt) hb911
    have hz11 := hb911.size
    have RP11 := Lib.hid (OP11.sl (flatO_ok flatInt) fP.out)
    replace OP11 := Lib.hid OP11
    clear hb911 hb10' hb11 OG9 OX9 OP9 RT X10 B10 x9_0 x9_1 b9_0 b9_1
    go_upto_region 17 with (first
      | (go_at_call 17; (with_reducible refine (cTI.out _ hw11).mono ?_); rintro en w12 ⟨qv, bq, rfl, OQ, -, fQ, hb12⟩; obtain ⟨qva, qvc, hqv⟩ := OQ.form; rw [← hnp.out] at hqv; subst hqv; have RQ := Lib.hid (OQ.sl (flatO_ok flatInt) fQ); clear OQ fQ)
      | (go_at_call 19; (with_reducible refine (cEI.out _ _ _ _ _ (RP11.out.below IntR.good hb12) RQ.out).mono ?_); rintro en w13 ⟨rfl, hb13⟩; have hb1113 := hb12.trans (hb13.mono hb12.size)))
    have F13 := F11.trans (hb1113.mono F11.size)
    have X13 := X11.below hb1113
    have B13 := B11.below hb1113
    have G13 := G11.below hb1113
    have S13 := S11.below hb1113
    have OG13 := Lib.hid (GCode.ok.below OG11.out hb1113)
    have OX13 := GCode.ok.below OX11.out hb1113
    have OP13 := Lib.hid (OP11.out.below (flatO_ok flatInt) hb1113)
    have hz13 := hb1113.size
    have cM := markCode_c _ bx 1 w4.heap.size 1 rfl x0 w13 OX13 ndX.out fX.out (by omega) hk0.out hl0.out
    obtain ⟨kx, hkxe⟩ : ∃ k : Nat, k = 1 + cntCode x0 := ⟨_, rfl⟩
    rw [← hkxe] at cM
    have hkxb : kx ≤ 1 + (1048576 * 4 + 1048576 * (1048576 * 1048579)) := by have := hkx.out; omega
    clear hkxe
    have hxg : ∀ b ∈ bg, b ∉ bx := fun b h1 h2 => by have := fG.out b h1; have := ltX.out b h2; omega
    have hpg : ∀ b ∈ bg, b ∉ bp := fun b h1 h2 => by have := fG.out b h1; have := ltP.out b h2; omega
    have hpx : ∀ b ∈ bp, b ∉ bx := fun b h1 h2 => by have := fP.out b h1; have := ltX.out b h2; omega
    have hnx : ∀ b, b ∈ bx → w4.heap.size ≤ b ∧ b < b5 := fun b h => ⟨fX.out b h, ltX.out b h⟩
    have hnp2 : ∀ b, b ∈ bp → w6.heap.size ≤ b ∧ b < w62.heap.size := fun b h => ⟨fP.out b h, ltP.out b h⟩
    have hng : ∀ b, b ∈ bg → w62.heap.size ≤ b ∧ b < b6 := fun b h => ⟨fG.out b h, ltG.out b h⟩
    replace cM := Lib.hid cM; replace hxg := Lib.hid hxg; replace hpg := Lib.hid hpg; replace hpx := Lib.hid hpx; replace hnx := Lib.hid hnx; replace hnp2 := Lib.hid hnp2; replace hng := Lib.hid hng
    clear hb12 hb13 hb1113 OG11 OX11 OX13 OP11 RP11 RQ X11 B11 G11 S11 x11_0 x11_1 b11_0 b11_1 hsX11 hsB11
    obtain ⟨x13_0, x13_1⟩ := X13.box2; have hsX13 := World.block_lt_of_cell? _ _ x13_0; dsimp only at hsX13
    go_upto_region 19 with (go_at_call 14; (with_reducible refine (cM.out).mono ?_); rintro en w14 ⟨rfl, -, hK14, hb14⟩)
    have F14 := F13.trans hb14
    have G14 := G13.kept hK14 (fun h => by have := hnx.out _ h; omega)
    have S14 := S13.kept hK14 (fun h => by have := hnx.out _ h; omega)
    have B14 := B13.kept hK14 (fun h => by have := hnx.out _ h; omega)
    have OG14 := Lib.hid (GCode.ok.kept OG13.out hK14 (fun b h1 h2 => hxg.out b h1 h2))
    have OP14 := OP13.out.kept (flatO_ok flatInt) hK14 (fun b h1 h2 => hpx.out b h1 h2)
    have hz14 := hb14.size
    have cM := markIntS_c _ bp kx w6.heap.size (kx : Int) rfl ps w14 OP14 ndP.out fP.out (by omega) (by rw [cntL_int, ← hnp.out]; omega) (by rw [← hnp.out]; omega)
    rw [cntL_int, ← hnp.out] at cM
    obtain ⟨ky0, hky0⟩ : ∃ k : Nat, k = kx + np := ⟨_, rfl⟩
    rw [← hky0] at cM
    have dk : decide ((ky0 : Int) < 0) = false := decide_eq_false (by omega)
    clear hky0
    replace cM := Lib.hid cM
    clear hK14 hb14 X13 x13_0 x13_1 hsX13 OG13 OP13 OP14 G13 S13 B13
    go_upto_region 20 with (go_at_call 20; (with_reducible refine (cM.out).mono ?_); rintro en w15 ⟨rfl, -, hK15, hb15⟩)
    have F15 := F14.trans (hb15.mono h46)
    have G15 := G14.kept hK15 (fun h => by have := hnp2.out _ h; omega)
    have S15 := S14.kept hK15 (fun h => by have := hnp2.out _ h; omega)
    have B15 := B14.kept hK15 (fun h => by have := hnp2.out _ h; omega)
    have OG15 := Lib.hid (GCode.ok.kept OG14.out hK15 (fun b h1 h2 => hpg.out b h1 h2))
    have hz15 := hb15.size
    clear hK15 hb15 cM OG14 G14 S14 B14
    obtain ⟨g15_0, g15_1⟩ := G15.box2; have hsG15 := World.block_lt_of_cell? _ _ g15_0; dsimp only at hsG15; obtain ⟨s15_0, s15_1⟩ := S15.box2; have hsS15 := World.block_lt_of_cell? _ _ s15_0; dsimp only at hsS15
    go_upto_region 22 with (go_at_call 11; (with_reducible refine (cE.out _ _ _ (GCode.ok.read OG15.out fG.out) F15).mono ?_); rintro en w16 ⟨rfl, hb16⟩)
    have F16 := F15.trans (hb16.mono F15.size)
    have G16 := G15.below hb16
    have S16 := S15.below hb16
    have B16 := B15.below hb16
    have OG16 := GCode.ok.below OG15.out hb16
    have hz16 := hb16.size
    have cM := markCode_c _ bg 1 w62.heap.size 1 rfl y w16 OG16 ndG.out fG.out (by omega) hk1.out hl1.out
    obtain ⟨ky, hky⟩ : ∃ k : Nat, k = 1 + cntCode y := ⟨_, rfl⟩
    rw [← hky] at cM
    have dm : decide ((ky : Int) < 0) = false := decide_eq_false (by omega)
    replace cM := Lib.hid cM; replace hky := Lib.hid hky
    clear hb16 OG16 OG15 g15_0 g15_1 s15_0 s15_1 G15 S15 B15 hsG15 hsS15
    obtain ⟨g16_0, g16_1⟩ := G16.box2; have hsG16 := World.block_lt_of_cell? _ _ g16_0; dsimp only at hsG16
    go_upto_region 24 with (go_at_call 14; (with_reducible refine (cM.out).mono ?_); rintro en w17 ⟨rfl, OG17, hK17, hb17⟩)
    have F17 := F16.trans (hb17.mono F62.size)
    have G17 := G16.kept hK17 (fun h => by have := hng.out _ h; omega)
    have S17 := S16.kept hK17 (fun h => by have := hng.out _ h; omega)
    have B17 := B16.kept hK17 (fun h => by have := hng.out _ h; omega)
    have RG17 := Lib.hid (GCode.ok.read OG17 fG.out)
    have cH := fun W (hW : Below w17.heap.size w17 W) => heldCode_c [.slice ga y.ins.length gc, .slice gb y.pats.length gd] 1 _ 1 rfl y W (GCode.good.below RG17.out hW) hk1.out hl1.out
    rw [← hky.out] at cH
    replace cH := Lib.hid cH
    have hz17 := hb17.size
    clear hK17 hb17 cM OG17 RG17 g16_0 g16_1 hsG16 G16 S16 B16
    obtain ⟨g17_0, g17_1⟩ := G17.box2; have hsG17 := World.block_lt_of_cell? _ _ g17_0; dsimp only at hsG17
    go_upto_region 26 with (go_at_call 15; (with_reducible refine (cH.out _ (Below.refl _ _)).mono ?_); rintro en w18 ⟨rfl, hb18⟩)
    have F18 := F17.trans (hb18.mono F17.size)
    have G18 := G17.below hb18
    have S18 := S17.below hb18
    have B18 := B17.below hb18
    have hw18 := hw4.trans (F18.mono hw4.size)
    have hz18 := hb18.size
    clear g17_0 g17_1 hsG17 G17 S17 B17
    obtain ⟨b18_0, b18_1⟩ := B18.box2; have hsB18 := World.block_lt_of_cell? _ _ b18_0; dsimp only at hsB18
    go_upto_region 31 with (first
      | (go_at_call 9; (with_reducible refine (cT.out _ hw18).mono ?_); rintro en w19 ⟨rt, bt, rfl, OT, -, fT, hb19⟩; have RT := GCode.ok.read OT fT; have hw19 := hw18.trans (hb19.mono hw18.size))
      | (go_at_call 17; (with_reducible refine (cTI.out _ hw19).mono ?_); rintro en w20 ⟨qv, bq, rfl, OQ, -, fQ, hb20⟩; obtain ⟨qva, qvc, hqv⟩ := OQ.form; rw [← hnp.out] at hqv; subst hqv; have RQ := OQ.sl (flatO_ok flatInt) fQ; have RT := GCode.good.below RT hb20; have hb1820 := hb19.trans (hb20.mono hb19.size))
      | (go_at_call 18; (with_reducible refine (cI.out _ _ _ (GCode.good.mono RT (Nat.zero_le _)) (RQ.mono IntR.good (Nat.zero_le _))).mono ?_); rintro en w21 ⟨rh, bh, rfl, OH, -, fH, hb21⟩; have RH := GCode.ok.read OH fH; obtain ⟨h0v, h1v, rfl, -, f0, f1⟩ := id RH; obtain ⟨ha, hc, rfl⟩ := f0.form; obtain ⟨hb', hd', rfl⟩ := f1.form; clear f0 f1; have hb1821 := hb1820.trans (hb21.mono hb1820.size)))
    obtain ⟨w22, hW22⟩ : ∃ W, W = w21.alloc (.cells #[.slice ha y.ins.length hc, .slice hb' y.pats.length hd'] 31) := ⟨_, rfl⟩
    rw [← hW22]
    have hb22 : Below w21.heap.size w21 w22 := by rw [hW22]; go_grown
    have H : RowAt w22 w21.heap.size 0 [.slice ha y.ins.length hc, .slice hb' y.pats.length hd'] := by rw [hW22]; exact RowAt.box w21 #[_, _] _
    have hb1822 := hb1821.trans (hb22.mono hb1821.size)
    have RH := Lib.hid (GCode.good.below RH hb22)
    have F22 := F18.trans (hb1822.mono F18.size)
    have G22 := G18.below hb1822
    have S22 := S18.below hb1822
    have hb1722 := hb18.trans (hb1822.mono hb18.size)
    obtain ⟨b10, hb10'⟩ : ∃ x, x = w21.heap.size := ⟨_, rfl⟩
    rw [← hb10'] at H ⊢
    clear hW22 hb22 OT fT RT OQ fQ RQ OH fH b18_0 b18_1 hsB18 G18 S18 B18
    replace hb10' := Lib.hid hb10'
    obtain ⟨h_0, h_1⟩ := H.box2; have hsH := World.block_lt_of_cell? _ _ h_0; dsimp only at hsH; obtain ⟨s22_0, s22_1⟩ := S22.box2; have hsS22 := World.block_lt_of_cell? _ _ s22_0; dsimp only at hsS22
    go_upto_region 33 with (go_at_call 11; (with_reducible refine (cE.out _ _ _ RH.out F22).mono ?_); rintro en w23 ⟨rfl, hb23⟩)
    have G23 := G22.below hb23
    have hb1723 := hb1722.trans (hb23.mono hb1722.size)
    have F23 := F22.trans (hb23.mono F22.size)
    have hw23 := hw4.trans (F23.mono hw4.size)
    clear h_0 h_1 s22_0 s22_1 hsS22 hsH
    obtain ⟨g23_0, g23_1⟩ := G23.box2; have hsG23 := World.block_lt_of_cell? _ _ g23_0; dsimp only at hsG23
    go_wp2_with (go_at_call 15; (with_reducible refine (cH.out _ hb1723).mono ?_); rintro en w24 ⟨rfl, hb24⟩)
    go_returns
    exact ⟨rfl, hw23.trans (hb24.mono hw23.size)⟩
end fnExactKeep
end Go.Proofs.Ytholponphpjoiaa
