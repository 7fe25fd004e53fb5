/- Parts of the proof, merged: PeepLaw, Open. -/
import Derived.Deep.Slices
import Derived.OpenShut
import Derived.Test.YtfobkbjabenkkaaGreatPe46
/- The law Peep: printed by gen_codelaw.py. -/
namespace Go.Proofs.YtfobkbjabenkkaaGreat
open Go.RowKit
set_option linter.unusedVariables false
set_option linter.unusedSimpArgs false
attribute [local go_sem] Ext.cell

namespace fnExactPeep
set_option maxRecDepth 100000 in
set_option maxHeartbeats 16000000 in
theorem law (x0 : GCode) (r0 : List Value) (w : World) (hx0 : GCode.R 0 w r0 x0) :
    Calls Tryz.prog 3 #[.agg r0.toArray] w fun en w' => en = .returned (.bool true) ∧ Below w.heap.size w w' := by
  have Hx0 := hx0
  obtain ⟨u0, u1, rfl, -, a0, a1⟩ := hx0
  obtain ⟨ua, uc, rfl⟩ := a0.form
  obtain ⟨ub, ud, rfl⟩ := a1.form
  clear a0 a1
  have z0 := GCode.bulk_nonneg x0
  go_enter Tryz.func3, Tryz.ntmps3
  go_upto_region 1 with fail
  have B : RowAt (w.alloc (.cells #[.slice ua x0.ins.length uc, .slice ub x0.pats.length ud] 25)) (w.heap.size) 0 [.slice ua x0.ins.length uc, .slice ub x0.pats.length ud] := RowAt.box w #[.slice ua x0.ins.length uc, .slice ub x0.pats.length ud] 25
  have hw : Below w.heap.size w (w.alloc (.cells #[.slice ua x0.ins.length uc, .slice ub x0.pats.length ud] 25)) := by go_grown
  generalize (w.alloc (.cells #[.slice ua x0.ins.length uc, .slice ub x0.pats.length ud] 25)) = w0 at *
  obtain ⟨b_0, b_1⟩ := B.box2; have hsB := World.block_lt_of_cell? _ _ b_0; dsimp only at hsB
  go_wp2_with fail
  refine (szCode_c x0 _ 0 _ (by omega) (by omega) _ (GCode.good.below Hx0 hw)).mono ?_
  rintro en w1 ⟨n1, rfl, (⟨g0, rfl⟩ | ⟨g0, rfl⟩), hb⟩
  rotate_left
  · replace hw : Below w.heap.size w w1 := hw.trans (hb.mono hw.size)
    go_wp2
    go_returns
    exact ⟨rfl, hw⟩
  have hw := hw.trans (hb.mono hw.size); have B := B.below hb; obtain ⟨b_0, b_1⟩ := B.box2; have hsB := World.block_lt_of_cell? _ _ b_0; dsimp only at hsB; clear hb
  have hB0 := hsB
  have hcc := codeCopy_bulk g0
  have cT := fun W (hW : Below w.heap.size w W) => toCode_o x0 _ 0 g0 W (GCode.good.below Hx0 hW)
  have cS := fun (r : List Value) (lo : Nat) (W : World) (hr : GCode.R lo W r x0) => specPeep_o x0 hcc r lo W hr
  have cI := fun (r : List Value) (lo : Nat) (W : World) (hr : GCode.R lo W r x0) => Peep_o x0 hcc r lo W hr
  obtain ⟨hk0, hl0⟩ := cnt_ok g0 x0 (Nat.le_refl _) (.inl rfl)
  obtain ⟨hk1, hl1⟩ := cnt_ok g0 (peepP x0) (peepP_sub x0).1 (peepP_sub x0).2
  have hd : (decide ((1048576 : Int) - x0.bulk < 0)) = false := decide_eq_false (by omega)
  generalize hz1 : (1048576 : Int) - x0.bulk = n1 at *
  clear hz1 z0 g0 hcc
  generalize hy : peepP x0 = y at *
  clear hy
  replace cT := Lib.hid cT; replace cS := Lib.hid cS; replace cI := Lib.hid cI; replace hk0 := Lib.hid hk0; replace hl0 := Lib.hid hl0; replace hk1 := Lib.hid hk1; replace hl1 := Lib.hid hl1; replace Hx0 := Lib.hid Hx0
  -- the reference's result
  go_upto_region 6 with (first
    | (go_at_call 6; (with_reducible refine (cT.out _ hw).mono ?_); rintro en w2 ⟨rt, bt, rfl, OT, -, fT, hb⟩; have RT := GCode.ok.read OT fT; have hw2 := hw.trans (hb.mono hw.size); have hz2 := hb.size; have B2 := B.below hb)
    | (go_at_call 5; (with_reducible refine (cS.out _ _ _ RT).mono ?_); rintro en w3 ⟨rs, bs, rfl, OS, -, fS, hb⟩; have RS := GCode.ok.read OS fS; obtain ⟨s0, s1, rfl, -, f0, f1⟩ := id RS; obtain ⟨sa, sc, rfl⟩ := f0.form; obtain ⟨sb, sd, rfl⟩ := f1.form; clear f0 f1; have hw3 := hw2.trans (hb.mono hw2.size); have hz3 := hb.size; have B3 := B2.below hb))
  obtain ⟨w4, hW4⟩ : ∃ W, W = w3.alloc (.cells #[.slice sa y.ins.length sc, .slice sb y.pats.length sd] 30) := ⟨_, rfl⟩
  rw [← hW4]
  have hb4 : Below w3.heap.size w3 w4 := by rw [hW4]; go_grown
  have S : RowAt w4 w3.heap.size 0 [.slice sa y.ins.length sc, .slice sb y.pats.length sd] := by rw [hW4]; exact RowAt.box w3 #[_, _] _
  have hs4 : w3.heap.size < w4.heap.size := by rw [hW4]; simp
  have hB4 : w.heap.size < w4.heap.size := by omega
  have RS := GCode.good.below RS hb4
  have B4 := B3.below hb4
  have hw4 := hw3.trans (hb4.mono hw3.size)
  obtain ⟨b4, hb4'⟩ : ∃ x, x = w3.heap.size := ⟨_, rfl⟩
  rw [← hb4'] at S hs4 ⊢
  clear hW4 hb4 OT fT RT OS fS B2 B3 hw3 hw2 b_0 b_1 hsB B hw
  replace RS := Lib.hid RS; replace hb4' := Lib.hid hb4'
  obtain ⟨b4_0, b4_1⟩ := B4.box2; have hsB4 := World.block_lt_of_cell? _ _ b4_0; dsimp only at hsB4
  -- the argument's copy
  go_upto_region 7 with (go_at_call 6; (with_reducible refine (cT.out _ hw4).mono ?_); rintro en w5 ⟨rx, bx, rfl, OX, ndX, fX, hb5⟩; obtain ⟨x0v, p0, x1v, p1, rfl, hp, -, f0, f1⟩ := id OX; obtain ⟨xa, xc, rfl⟩ := f0.form; obtain ⟨xb, xd, rfl⟩ := f1.form; clear f0 f1)
  have ltX := GCode.ok.lt OX
  obtain ⟨w6, hW6⟩ : ∃ W, W = w5.alloc (.cells #[.slice xa x0.ins.length xc, .slice xb x0.pats.length xd] 30) := ⟨_, rfl⟩
  rw [← hW6]
  have hb6 : Below w5.heap.size w5 w6 := by rw [hW6]; go_grown
  have X : RowAt w6 w5.heap.size 0 [.slice xa x0.ins.length xc, .slice xb x0.pats.length xd] := by rw [hW6]; exact RowAt.box w5 #[_, _] _
  have hs6 : w5.heap.size < w6.heap.size := by rw [hW6]; simp
  have F6 : Below w4.heap.size w4 w6 := hb5.trans (hb6.mono hb5.size)
  have OX := GCode.ok.below OX hb6
  have hz5 := hb5.size
  obtain ⟨b5, hb5'⟩ : ∃ x, x = w5.heap.size := ⟨_, rfl⟩
  rw [← hb5'] at X hs6 ltX hz5 ⊢
  clear hW6 hb6 hb5 hp b4_0 b4_1 hsB4
  replace OX := Lib.hid OX; replace ndX := Lib.hid ndX; replace fX := Lib.hid fX; replace ltX := Lib.hid ltX; replace hb5' := Lib.hid hb5'
  have RX := Lib.hid (GCode.ok.read OX.out fX.out)
  obtain ⟨x_0, x_1⟩ := X.box2; have hsX := World.block_lt_of_cell? _ _ x_0; dsimp only at hsX
  -- the program's result
  go_upto_region 8 with (go_at_call 7; (with_reducible refine (cI.out _ _ _ RX.out).mono ?_); rintro en w7 ⟨rg, bg, rfl, OG, ndG, fG, hb7⟩; obtain ⟨g0v, p0, g1v, p1, rfl, hp, -, f0, f1⟩ := id OG; obtain ⟨ga, gc, rfl⟩ := f0.form; obtain ⟨gb, gd, rfl⟩ := f1.form; clear f0 f1)
  have ltG := GCode.ok.lt OG
  obtain ⟨w8, hW8⟩ : ∃ W, W = w7.alloc (.cells #[.slice ga y.ins.length gc, .slice gb y.pats.length gd] 30) := ⟨_, rfl⟩
  rw [← hW8]
  have hb8 : Below w7.heap.size w7 w8 := by rw [hW8]; go_grown
  have G : RowAt w8 w7.heap.size 0 [.slice ga y.ins.length gc, .slice gb y.pats.length gd] := by rw [hW8]; exact RowAt.box w7 #[_, _] _
  have hs8 : w7.heap.size < w8.heap.size := by rw [hW8]; simp
  have F68 : Below w6.heap.size w6 w8 := hb7.trans (hb8.mono hb7.size)
  have F8 : Below w4.heap.size w4 w8 := F6.trans (F68.mono F6.size)
  have OG := GCode.ok.below OG hb8
  have OX8 := GCode.ok.below OX.out F68
  have X8 := X.below F68
  have S8 := S.below F8
  have B8 := B4.below F8
  have hz7 := hb7.size
  obtain ⟨b6, hb6'⟩ : ∃ x, x = w7.heap.size := ⟨_, rfl⟩
  rw [← hb6'] at G hs8 ltG hz7 ⊢
  clear hW8 hb8 hb7 hp x_0 x_1 hsX OX RX
  replace OG := Lib.hid OG; replace ndG := Lib.hid ndG; replace fG := Lib.hid fG; replace ltG := Lib.hid ltG; replace hb6' := Lib.hid hb6'; replace OX8 := Lib.hid OX8
  -- what does not change: the reference's result; what stays by Below; equal codes are told equal
  have cE := fun (r : List Value) (lo : Nat) W (hr : GCode.R lo W r y) (hF : Below w4.heap.size w4 W) => eqCode_eq y r [.slice sa y.ins.length sc, .slice sb y.pats.length sd] lo _ W hr (GCode.good.below RS.out hF)
  have cE0 := fun (r r2 : List Value) (lo lo2 : Nat) W (hr : GCode.R lo W r x0) (hr2 : GCode.R lo2 W r2 x0) => eqCode_eq x0 r r2 lo lo2 W hr hr2
  replace cE := Lib.hid cE; replace cE0 := Lib.hid cE0
  have hzz := F8.size
  obtain ⟨g_0, g_1⟩ := G.box2; have hsG := World.block_lt_of_cell? _ _ g_0; dsimp only at hsG; obtain ⟨s8_0, s8_1⟩ := S8.box2; have hsS8 := World.block_lt_of_cell? _ _ s8_0; dsimp only at hsS8
  go_upto_region 10 with (go_at_call 8; (with_reducible refine (cE.out _ _ _ (GCode.ok.read OG.out fG.out) F8).mono ?_); rintro en w9 ⟨rfl, hb9⟩)
  have F9 := F8.trans (hb9.mono F8.size)
  have hw9 := hw4.trans (F9.mono hw4.size)
  have OG9 := Lib.hid (GCode.ok.below OG.out hb9)
  have OX9 := Lib.hid (GCode.ok.below OX8.out hb9)
  have G9 := G.below hb9
  have S9 := S8.below hb9
  have X9 := X8.below hb9
  have B9 := B8.below hb9
  have hz9 := hb9.size
  clear g_0 g_1 hsG s8_0 s8_1 hsS8 OG OX8 hb9
  obtain ⟨b9_0, b9_1⟩ := B9.box2; have hsB9 := World.block_lt_of_cell? _ _ b9_0; dsimp only at hsB9; obtain ⟨x9_0, x9_1⟩ := X9.box2; have hsX9 := World.block_lt_of_cell? _ _ x9_0; dsimp only at hsX9
  -- the argument is as it was
  go_region_held3 (fun w' => w'.cell? ⟨b5, 0, none⟩ = some (.slice xa x0.ins.length xc) ∧ w'.cell? ⟨b5, 1, none⟩ = some (.slice xb x0.pats.length xd) ∧ w'.cell? ⟨w.heap.size, 0, none⟩ = some (.slice ua x0.ins.length uc) ∧ w'.cell? ⟨w.heap.size, 1, none⟩ = some (.slice ub x0.pats.length ud)) (first | exact ⟨x9_0, x9_1, b9_0, b9_1⟩ | go_keep)
    (first
      | (go_at_call 6; (with_reducible refine (cT.out _ (hw9.trans (by go_grown))).mono ?_); rintro en w10 ⟨rt, bt, rfl, OT, -, fT, hb10⟩; have hb10' : Below w9.heap.size w9 w10 := (show Below w9.heap.size w9 w9.drew by go_grown).trans (hb10.mono (by go_grown)); have RT := Lib.hid (GCode.ok.read OT fT); have X10 := X9.below hb10'; have B10 := B9.below hb10'; obtain ⟨x10_0, x10_1⟩ := X10.box2; have hsX10 := World.block_lt_of_cell? _ _ x10_0; dsimp only at hsX10; obtain ⟨b10_0, b10_1⟩ := B10.box2; have hsB10 := World.block_lt_of_cell? _ _ b10_0; dsimp only at hsB10; clear OT fT hb10)
      | (go_at_call 8; (with_reducible refine (cE0.out _ _ _ _ _ (GCode.ok.read (GCode.ok.below OX9.out hb10') fX.out) RT.out).mono ?_); rintro en w11 ⟨rfl, hb11⟩; have hb911 : Below w9.heap.size w9 w11 := hb10'.trans (hb11.mono hb10'.size); have X11 := X9.below hb911; have B11 := B9.below hb911; obtain ⟨x11_0, x11_1⟩ := X11.box2; have hsX11 := World.block_lt_of_cell? _ _ x11_0; dsimp only at hsX11; obtain ⟨b11_0, b11_1⟩ := B11.box2; have hsB11 := World.block_lt_of_cell? _ _ b11_0; dsimp only at hsB11))
  all_goals
    have F11 := F9.trans (hb911.mono F9.size)
    have G11 := G9.below hb911
    have S11 := S9.below hb911
    have OG11 := Lib.hid (GCode.ok.below OG9.out hb911)
    have OX11 := Lib.hid (GCode.ok.below OX9.out hb911)
    have hz11 := hb911.size
    have h46 := F6.size
    have cM := markCode_c _ bx 1 w4.heap.size 1 rfl x0 w11 OX11.out ndX.out fX.out (by omega) hk0.out hl0.out
    obtain ⟨kx, hkx⟩ : ∃ k : Nat, k = 1 + cntCode x0 := ⟨_, rfl⟩
    rw [← hkx] at cM
    clear hkx
    have dk : decide ((kx : Int) < 0) = false := decide_eq_false (by omega)
    replace cM := Lib.hid cM
    clear hb911 hb10' hb11 OG9 OX9 RT X10 B10 x9_0 x9_1 b9_0 b9_1
    have hxg : ∀ b ∈ bg, b ∉ bx := fun b h1 h2 => by have := fG.out b h1; have := ltX.out b h2; omega
    have hnx : ∀ b, b ∈ bx → w4.heap.size ≤ b ∧ b < b5 := fun b h => ⟨fX.out b h, ltX.out b h⟩
    have hng : ∀ b, b ∈ bg → w6.heap.size ≤ b ∧ b < b6 := fun b h => ⟨fG.out b h, ltG.out b h⟩
    replace hxg := Lib.hid hxg; replace hnx := Lib.hid hnx; replace hng := Lib.hid hng
    go_upto_region 14 with (go_at_call 9; (with_reducible refine (cM.out).mono ?_); rintro en w12 ⟨rfl, -, hK12, hb12⟩)
    have F12 := F11.trans hb12
    have G12 := G11.kept hK12 (fun h => by have := hnx.out _ h; omega)
    have S12 := S11.kept hK12 (fun h => by have := hnx.out _ h; omega)
    have B12 := B11.kept hK12 (fun h => by have := hnx.out _ h; omega)
    have OG12 := Lib.hid (GCode.ok.kept OG11.out hK12 (fun b h1 h2 => hxg.out b h1 h2))
    have hz12 := hb12.size
    clear hK12 hb12 cM OX11 X11 x11_0 x11_1 hsX11 b11_0 b11_1 hsB11 OG11 G11 S11 B11
    obtain ⟨g12_0, g12_1⟩ := G12.box2; have hsG12 := World.block_lt_of_cell? _ _ g12_0; dsimp only at hsG12; obtain ⟨s12_0, s12_1⟩ := S12.box2; have hsS12 := World.block_lt_of_cell? _ _ s12_0; dsimp only at hsS12
    go_upto_region 16 with (go_at_call 8; (with_reducible refine (cE.out _ _ _ (GCode.ok.read OG12.out fG.out) F12).mono ?_); rintro en w13 ⟨rfl, hb13⟩)
    have F13 := F12.trans (hb13.mono F12.size)
    have G13 := G12.below hb13
    have S13 := S12.below hb13
    have B13 := B12.below hb13
    have OG13 := GCode.ok.below OG12.out hb13
    have hz13 := hb13.size
    have cM := markCode_c _ bg 1 w6.heap.size 1 rfl y w13 OG13 ndG.out fG.out (by omega) hk1.out hl1.out
    obtain ⟨ky, hky⟩ : ∃ k : Nat, k = 1 + cntCode y := ⟨_, rfl⟩
    rw [← hky] at cM
    have dm : decide ((ky : Int) < 0) = false := decide_eq_false (by omega)
    replace cM := Lib.hid cM; replace hky := Lib.hid hky
    clear hb13 OG13 OG12 g12_0 g12_1 s12_0 s12_1 G12 S12 B12 hsG12 hsS12
    obtain ⟨g13_0, g13_1⟩ := G13.box2; have hsG13 := World.block_lt_of_cell? _ _ g13_0; dsimp only at hsG13
    go_upto_region 18 with (go_at_call 9; (with_reducible refine (cM.out).mono ?_); rintro en w14 ⟨rfl, OG14, hK14, hb14⟩)
    have F14 := F13.trans (hb14.mono h46)
    have G14 := G13.kept hK14 (fun h => by have := hng.out _ h; omega)
    have S14 := S13.kept hK14 (fun h => by have := hng.out _ h; omega)
    have B14 := B13.kept hK14 (fun h => by have := hng.out _ h; omega)
    have RG14 := Lib.hid (GCode.ok.read OG14 fG.out)
    have cH := fun W (hW : Below w14.heap.size w14 W) => heldCode_c [.slice ga y.ins.length gc, .slice gb y.pats.length gd] 1 _ 1 rfl y W (GCode.good.below RG14.out hW) hk1.out hl1.out
    rw [← hky.out] at cH
    replace cH := Lib.hid cH
    have hz14 := hb14.size
    clear hK14 hb14 cM OG14 RG14 g13_0 g13_1 hsG13 G13 S13 B13
    obtain ⟨g14_0, g14_1⟩ := G14.box2; have hsG14 := World.block_lt_of_cell? _ _ g14_0; dsimp only at hsG14
    go_upto_region 20 with (go_at_call 10; (with_reducible refine (cH.out _ (Below.refl _ _)).mono ?_); rintro en w15 ⟨rfl, hb15⟩)
    have F15 := F14.trans (hb15.mono F14.size)
    have G15 := G14.below hb15
    have S15 := S14.below hb15
    have B15 := B14.below hb15
    have hw15 := hw4.trans (F15.mono hw4.size)
    have hz15 := hb15.size
    clear g14_0 g14_1 hsG14 G14 S14 B14
    obtain ⟨b15_0, b15_1⟩ := B15.box2; have hsB15 := World.block_lt_of_cell? _ _ b15_0; dsimp only at hsB15
    have cT2 := fun W (hW : Below w15.heap.size w15 W) => cT.out W (hw15.trans (hW.mono hw15.size))
    replace cT2 := Lib.hid cT2
    go_upto_region 25 with (first
      | (go_at_call 6; (with_reducible refine (cT2.out _ (Below.refl _ _)).mono ?_); rintro en w16 ⟨rt, bt, rfl, OT, -, fT, hb16⟩; have RT := GCode.ok.read OT fT; have G16 := G15.below hb16; have S16 := S15.below hb16; have hz16 := hb16.size)
      | (go_at_call 7; (with_reducible refine (cI.out _ _ _ RT).mono ?_); rintro en w17 ⟨rh, bh, rfl, OH, -, fH, hb17⟩; have RH := GCode.ok.read OH fH; obtain ⟨h0v, h1v, rfl, -, f0, f1⟩ := id RH; obtain ⟨ha, hc, rfl⟩ := f0.form; obtain ⟨hb', hd', rfl⟩ := f1.form; clear f0 f1; have hb1517 : Below w15.heap.size w15 w17 := hb16.trans (hb17.mono hb16.size)))
    obtain ⟨w18, hW18⟩ : ∃ W, W = w17.alloc (.cells #[.slice ha y.ins.length hc, .slice hb' y.pats.length hd'] 30) := ⟨_, rfl⟩
    rw [← hW18]
    have hb18 : Below w17.heap.size w17 w18 := by rw [hW18]; go_grown
    have H : RowAt w18 w17.heap.size 0 [.slice ha y.ins.length hc, .slice hb' y.pats.length hd'] := by rw [hW18]; exact RowAt.box w17 #[_, _] _
    have hb1518 := hb1517.trans (hb18.mono hb1517.size)
    have RH := Lib.hid (GCode.good.below RH hb18)
    have F18 := F15.trans (hb1518.mono F15.size)
    have G18 := G15.below hb1518
    have S18 := S15.below hb1518
    have hb1418 := hb15.trans (hb1518.mono hb15.size)
    obtain ⟨b10, hb10'⟩ : ∃ x, x = w17.heap.size := ⟨_, rfl⟩
    rw [← hb10'] at H ⊢
    clear hW18 hb18 OT fT RT OH fH G16 S16 b15_0 b15_1 hsB15 G15 S15 B15
    replace hb10' := Lib.hid hb10'
    obtain ⟨h_0, h_1⟩ := H.box2; have hsH := World.block_lt_of_cell? _ _ h_0; dsimp only at hsH; obtain ⟨s18_0, s18_1⟩ := S18.box2; have hsS18 := World.block_lt_of_cell? _ _ s18_0; dsimp only at hsS18
    go_upto_region 27 with (go_at_call 8; (with_reducible refine (cE.out _ _ _ RH.out F18).mono ?_); rintro en w19 ⟨rfl, hb19⟩)
    have G19 := G18.below hb19
    have hb1419 := hb1418.trans (hb19.mono hb1418.size)
    have F19 := F18.trans (hb19.mono F18.size)
    have hw19 := hw4.trans (F19.mono hw4.size)
    clear h_0 h_1 s18_0 s18_1 hsS18 hsH
    obtain ⟨g19_0, g19_1⟩ := G19.box2; have hsG19 := World.block_lt_of_cell? _ _ g19_0; dsimp only at hsG19
    go_wp2_with (go_at_call 10; (with_reducible refine (cH.out _ hb1419).mono ?_); rintro en w20 ⟨rfl, hb20⟩)
    go_returns
    exact ⟨rfl, hw19.trans (hb20.mono hw19.size)⟩
end fnExactPeep
end Go.Proofs.YtfobkbjabenkkaaGreat

/- From the form's own reading of an argument to ours. -/
namespace Go.Proofs.YtfobkbjabenkkaaGreat
open Go.RowKit
set_option linter.unusedVariables false

def Opens {α : Type} (P : Program) (t : TypeId) (R : Reading α) : Prop := ∀ (H : Type) (enc : TypeId × Value → H) (w : World) (spare : Nat → Bool) (held : Bool) (fuel : Nat) (cs : List Value) (x : DataW H × List MemPlace),
  DataW.trod enc P w 0 spare held fuel t cs = some x → ∃ y, R 0 w cs y

def SlR {α : Type} (R : Reading α) (sz : Nat) : Reading (List α) := fun lo w r xs => ∃ v, r = [v] ∧ Sl R sz lo w v xs

theorem opens_int {P : Program} {t : TypeId} (ht : P.underlying t = some (.int .i64)) : Opens P t IntR := by
  intro H enc w spare held fuel cs x h
  obtain ⟨n, rfl, _, hw⟩ := DataW.trod_int ht h
  exact ⟨n, rfl, bounds_i64 hw⟩

theorem opens_string {P : Program} {t : TypeId} (ht : P.underlying t = some .string) : Opens P t StrR := by
  intro H enc w spare held fuel cs x h
  obtain ⟨n, rfl, _, hw⟩ := DataW.trod_string ht h
  exact ⟨n, rfl, by unfold StrOk; unfold maxLen at hw; omega⟩

theorem opens_bool {P : Program} {t : TypeId} (ht : P.underlying t = some .bool) : Opens P t BoolR := by
  intro H enc w spare held fuel cs x h
  obtain ⟨n, rfl, _⟩ := DataW.trod_bool ht h
  exact ⟨n, rfl⟩

theorem opens_byte {P : Program} {t : TypeId} (ht : P.underlying t = some (.int .u8)) : Opens P t ByteR := by
  intro H enc w spare held fuel cs x h
  obtain ⟨n, rfl, _, hw⟩ := DataW.trod_int ht h
  have hb := bounds_u8 hw
  exact ⟨UInt8.ofNat n.toNat, by
    have h1 : (UInt8.ofNat n.toNat).toNat = n.toNat := by
      rw [UInt8.toNat_ofNat']; exact Nat.mod_eq_of_lt (by omega)
    show [Value.int .u8 n] = _
    rw [h1, Int.toNat_of_nonneg hb.1]⟩

theorem list_of {α : Type} {p : Nat → α → Prop} : ∀ (n : Nat), (∀ i, i < n → ∃ y, p i y) → ∃ l : List α, l.length = n ∧ ∀ i y, l[i]? = some y → p i y
  | 0, _ => ⟨[], rfl, fun i y h => by simp at h⟩
  | n + 1, h => by
    obtain ⟨l, hl, hp⟩ := list_of n (fun i hi => h i (by omega))
    obtain ⟨y, hy⟩ := h n (by omega)
    refine ⟨l ++ [y], by simp [hl], fun i z hz => ?_⟩
    rcases Nat.lt_trichotomy i n with hi | hi | hi
    · rw [List.getElem?_append_left (by omega)] at hz
      exact hp i z hz
    · subst hi
      rw [List.getElem?_append_right (by omega), hl] at hz
      simp at hz
      exact hz ▸ hy
    · rw [List.getElem?_eq_none (by simp; omega)] at hz
      cases hz

theorem add_none (b off n : Nat) : (⟨b, off, none⟩ : Addr).add n = ⟨b, off + n, none⟩ := by
  unfold Addr.add
  split
  · subst_vars; rfl
  · rfl

theorem opens_slice {α : Type} {P : Program} {t e : TypeId} {R : Reading α} {sz : Nat} (ht : P.underlying t = some (.slice e)) (hc : P.cellsOf e = sz) (hsz : 0 < sz) (hO : Opens P e R) : Opens P t (SlR R sz) := by
  intro H enc w spare held fuel cs x h
  rcases Deep.open_slice ht h with ⟨rfl, _⟩ | ⟨a, len, cap, m, n, D, Pl, rfl, _, hl, hm, hmm, _, hel⟩
  · exact ⟨[], _, rfl, Sl.nil⟩
  have hlm : len ≤ m := by rw [hmm]; split <;> omega
  rw [hc] at hel
  obtain ⟨xs, hxl, hxs⟩ := list_of (p := fun i y => ∃ cs', w.cells? 0 (a.add (i * sz)) sz = some cs' ∧ R 0 w cs' y) len (fun i hi => by
    obtain ⟨cs', h1, h2⟩ := hel i (by omega)
    obtain ⟨y, hy⟩ := hO H enc w spare held n cs' _ h2
    exact ⟨y, cs', h1, hy⟩)
  subst hxl
  refine ⟨xs, _, rfl, some a, cap, rfl, hl, by unfold maxLen at hm; omega, fun hne => ?_⟩
  have hspot : a.spot = none := by
    obtain ⟨cs', h1, _⟩ := hxs 0 xs[0] (by simp)
    obtain ⟨_, h3, h4⟩ := World.cells?_some h1
    have h5 := h4 0 (by omega)
    have h6 : ∃ v, w.cell? (a.add (0 * sz) |>.add 0) = some v := by
      obtain ⟨v, hv⟩ : ∃ v, cs'[0]? = some v := ⟨cs'[0]'(by omega), by simp⟩
      exact ⟨v, by rw [h5, hv]⟩
    obtain ⟨v, hv⟩ := h6
    have h7 := World.cell?_spot hv
    simpa [Addr.add] using h7
  obtain ⟨b, off, sp⟩ := a
  simp only at hspot
  subst hspot
  refine ⟨b, off, Nat.zero_le _, rfl, fun i y hy => ?_⟩
  obtain ⟨cs', h1, h2⟩ := hxs i y hy
  obtain ⟨_, h3, h4⟩ := World.cells?_some h1
  refine ⟨cs', h2, fun j c hjc => ?_⟩
  have hj : j < sz := by
    have := (List.getElem?_eq_some_iff.1 hjc).1
    omega
  have h5 := h4 j hj
  rw [add_none, add_none] at h5
  rw [h5, hjc]

theorem list_len1 {α : Type} {l : List α} (h : l.length = 1) : ∃ a, l = [a] := by
  match l, h with | [a], _ => exact ⟨a, rfl⟩
theorem list_len2 {α : Type} {l : List α} (h : l.length = 2) : ∃ a b, l = [a, b] := by
  match l, h with | [a, b], _ => exact ⟨a, b, rfl⟩
theorem list_len3 {α : Type} {l : List α} (h : l.length = 3) : ∃ a b c, l = [a, b, c] := by
  match l, h with | [a, b, c], _ => exact ⟨a, b, c, rfl⟩
theorem list_len4 {α : Type} {l : List α} (h : l.length = 4) : ∃ a b c d, l = [a, b, c, d] := by
  match l, h with | [a, b, c, d], _ => exact ⟨a, b, c, d, rfl⟩
theorem list_len6 {α : Type} {l : List α} (h : l.length = 6) : ∃ a b c d e f, l = [a, b, c, d, e, f] := by
  match l, h with | [a, b, c, d, e, f], _ => exact ⟨a, b, c, d, e, f, rfl⟩
theorem list_len9 {α : Type} {l : List α} (h : l.length = 9) : ∃ a b c d e f g i j, l = [a, b, c, d, e, f, g, i, j] := by
  match l, h with | [a, b, c, d, e, f, g, i, j], _ => exact ⟨a, b, c, d, e, f, g, i, j, rfl⟩

/-- A struct argument. -/
theorem open_struct {α : Type} {H : Type} {enc : TypeId × Value → H} {P : Program} {t : TypeId} {fs : Array Field} {R : Reading α} {w : World} {base : Nat} {v : Value} {d : DataW H} {spare : Nat → Bool} {held : Bool} {ps : List MemPlace}
    (hs : P.underlying t = some (.struct fs)) (hO : Opens P t R) (hv : Value.okWide P w .any base t v) (h : DataW.Trod enc P w 0 spare held t v d ps) : ∃ r x, v = .agg r.toArray ∧ R 0 w r x := by
  unfold Value.okWide at hv
  rw [hs] at hv
  obtain ⟨cs, rfl, _, _⟩ := hv
  obtain ⟨fuel, hf⟩ := h
  obtain ⟨x, hx⟩ := hO H enc w spare held fuel _ _ hf
  exact ⟨cs.toList, x, by simp, hx⟩

/-- A slice argument. -/
theorem open_slice_arg {α : Type} {H : Type} {enc : TypeId × Value → H} {P : Program} {t e : TypeId} {R : Reading α} {sz : Nat} {w : World} {base : Nat} {v : Value} {d : DataW H} {spare : Nat → Bool} {held : Bool} {ps : List MemPlace}
    (hs : P.underlying t = some (.slice e)) (hO : Opens P t (SlR R sz)) (hv : Value.okWide P w .any base t v) (h : DataW.Trod enc P w 0 spare held t v d ps) : ∃ xs, Sl R sz 0 w v xs := by
  obtain ⟨a, len, cap, rfl⟩ := Go.WideShapes.okWide_slice hs hv
  obtain ⟨fuel, hf⟩ := h
  obtain ⟨xs, u, hu, hx⟩ := hO H enc w spare held fuel _ _ hf
  simp [Value.cells] at hu
  subst hu
  exact ⟨xs, hx⟩

end Go.Proofs.YtfobkbjabenkkaaGreat
