/- Parts of the proof, merged: DataExprLaw. -/
import Derived.Test.YtnmmfcnkpcigoaaGreatDe51
/- The law FnExactDataExpr: the program's DataExpr and the reference's give the same; what the program returns is fresh at each call. -/
namespace Go.Proofs.YtnmmfcnkpcigoaaGreat
open Go.RowKit
set_option linter.unusedVariables false
set_option linter.unusedSimpArgs false
attribute [local go_sem] Ext.cell

theorem cntInt_len (l : List Int) : cntL cntInt l = l.length := by
  induction l with
  | nil => rfl
  | cons a l ih => unfold cntL at ih ⊢; rw [List.map_cons, List.sum_cons, ih]; simp [cntInt]; omega
theorem cntL_append {α : Type} (c : α → Nat) (l m : List α) : cntL c (l ++ m) = cntL c l + cntL c m := by unfold cntL; rw [List.map_append, List.sum_append]
theorem cntL_cons {α : Type} (c : α → Nat) (a : α) (m : List α) : cntL c (a :: m) = c a + cntL c m := by unfold cntL; rw [List.map_cons, List.sum_cons]
mutual
theorem cnt_layE : ∀ (t : PxT) (a : Nat), cntL cntNode (layE a (dExprS t)) + 1 ≤ 5 * szE (dExprS t)
  | .mk kd n s ks, a => by
    rw [dExprS_mk]
    split
    · have h1 : szE (eNeg n) = 3 := by simp [eNeg, eLeaf, szE, szEs]
      have h2 : cntL cntNode (layE a (eNeg n)) = 14 := by simp [eNeg, eLeaf, layE, layEs, plE, cntL, cntNode, cntInt]
      omega
    · rw [layE_mk, szE_mk, cntL_cons]
      have h1 := cnt_layEs ks (a + 1)
      have h2 : cntNode ⟨dKind kd, 0, n, s, plE (a + 1) (dExprSs ks), []⟩ = 4 + (dExprSs ks).length := by
        unfold cntNode
        dsimp only
        rw [cntInt_len, plE_len]
        simp [cntL]
      rw [h2]
      omega
theorem cnt_layEs : ∀ (l : List PxT) (a : Nat), cntL cntNode (layEs a (dExprSs l)) + (dExprSs l).length ≤ 5 * szEs (dExprSs l)
  | [], a => by rw [dExprSs, layEs, szEs]; simp [cntL]
  | k :: l, a => by
    rw [dExprSs, layEs, szEs, cntL_append, List.length_cons]
    have h1 := cnt_layE k a
    have h2 := cnt_layEs l (a + szE (dExprS k))
    omega
end
theorem deN_sm (d : GData) : 1 + cntL cntNode (deN d) ≤ 4611686018427387904 ∧ LenOkNode (deN d) := by
  have hz : ∀ N : List GNode, cntL cntNode N ≤ 9000 → N.length ≤ 1800 → (∀ x ∈ N, x.pats = []) → 1 + cntL cntNode N ≤ 4611686018427387904 ∧ LenOkNode N := fun N h1 h2 h3 => by
    refine ⟨by omega, by omega, fun x hx => ?_⟩
    obtain ⟨i, hi⟩ := List.getElem?_of_mem hx
    have h4 := cntL_get (cnt := cntNode) hi
    rw [h3 x hx]
    refine ⟨?_, ?_⟩
    · have h5 : cntNode x = 4 + cntL cntInt x.kids + cntL cntPat x.pats := rfl
      rw [cntInt_len] at h5
      omega
    · exact ⟨Nat.zero_le _, fun y hy => by cases hy⟩
  unfold deN
  split
  · rename_i h
    have hk : dataOk d = true := by unfold dataExprP at h; simp at h; exact h.1
    have h1 := cnt_layE (treeOf d.nodes d.nodes.length 0) 0
    have h2 := (dNodes_sm d hk).2
    have h3 : (dNodes d).length = szE (dExprS (treeOf d.nodes d.nodes.length 0)) := by unfold dNodes; rw [layE_len]
    exact hz _ (by unfold dNodes; omega) h2 (layE_nopats _ _)
  · exact hz [] (by simp [cntL]) (by simp) (fun x hx => by cases hx)
theorem progR {lo : Nat} {w : World} {v : Value} {a : Option Addr} {N : List GNode} (h : Sl GNode.R 6 lo w v N) : GProgram.R lo w [.slice a 0 0, v] ⟨[], N⟩ :=
  ⟨.slice a 0 0, v, rfl, trivial, ⟨a, 0, rfl, Nat.zero_le _, by decide, fun h => absurd h (by simp)⟩, h⟩
theorem eqProg_eq (N : List GNode) (v v' : Value) (a a' : Option Addr) (lo lo' : Nat) (W : World) (h1 : Sl GNode.R 6 lo W v N) (h2 : Sl GNode.R 6 lo' W v' N) :
    Calls Tryz.prog 8 #[.agg #[.slice a 0 0, v], .agg #[.slice a' 0 0, v']] W fun e W' => e = .returned (.bool true) ∧ Below W.heap.size W W' :=
  (eqProgram_c ⟨[], N⟩ ⟨[], N⟩ [.slice a 0 0, v] [.slice a' 0 0, v'] lo lo' W (progR h1) (progR h2)).mono fun e W' ⟨he, hb⟩ => ⟨by rw [he]; simp, hb⟩
theorem eqData_eq (y : GData) (r s : List Value) (lo lo' : Nat) (W : World) (h1 : GData.R lo W r y) (h2 : GData.R lo' W s y) :
    Calls Tryz.prog 9 #[.agg r.toArray, .agg s.toArray] W fun e W' => e = .returned (.bool true) ∧ Below W.heap.size W W' :=
  (eqData_c y y r s lo lo' W h1 h2).mono fun e W' ⟨he, hb⟩ => ⟨by rw [he]; simp, hb⟩
theorem data_len {x : GData} (h : x.bulk ≤ 1048576) : x.nodes.length ≤ 1152921504606846976 := by
  have h2 : bulkS GDNode.bulk x.nodes ≤ 1048576 := h
  have h3 := length_le_bulkS (f := GDNode.bulk) GDNode.bulk_nonneg x.nodes
  omega

namespace fnExactDataExpr
set_option maxRecDepth 100000 in
set_option maxHeartbeats 16000000 in
theorem law (x0 : GData) (r0 : List Value) (w : World) (hx0 : GData.R 0 w r0 x0) :
    Calls Tryz.prog 3 #[.agg r0.toArray] w fun en w' => en = .returned (.bool true) ∧ Below w.heap.size w w' := by
  have Hx0 := hx0
  obtain ⟨u0, rfl, -, a0⟩ := hx0
  obtain ⟨ua, uc, rfl⟩ := a0.form
  clear a0
  have z0 := GData.bulk_nonneg x0
  go_enter Tryz.func3, Tryz.ntmps3
  go_upto_region 1 with fail
  have B : RowAt (w.alloc (.cells #[.slice ua x0.nodes.length uc] 24)) (w.heap.size) 0 [.slice ua x0.nodes.length uc] := RowAt.box w #[.slice ua x0.nodes.length uc] 24
  have hw : Below w.heap.size w (w.alloc (.cells #[.slice ua x0.nodes.length uc] 24)) := by go_grown
  generalize (w.alloc (.cells #[.slice ua x0.nodes.length uc] 24)) = w0 at *
  have b_0 := B.box1; have hsB := World.block_lt_of_cell? _ _ b_0; dsimp only at hsB
  go_wp2_with fail
  refine (szData_c x0 _ 0 _ (by omega) (by omega) _ (GData.good.below Hx0 hw)).mono ?_
  rintro en w1 ⟨n1, rfl, (⟨g0, rfl⟩ | ⟨g0, rfl⟩), hb⟩
  rotate_left
  · replace hw : Below w.heap.size w w1 := hw.trans (hb.mono hw.size)
    go_wp2
    go_returns
    exact ⟨rfl, hw⟩
  have hw := hw.trans (hb.mono hw.size); have B := B.below hb; have b_0 := B.box1; have hsB := World.block_lt_of_cell? _ _ b_0; dsimp only at hsB; clear hb
  have hB0 := hsB
  have hcc := data_len g0
  have cT := fun W (hW : Below w.heap.size w W) => toData_o x0 _ 0 g0 W (GData.good.below Hx0 hW)
  have cS := fun (r : List Value) (lo : Nat) (W : World) (hr : GData.R lo W r x0) => specDataExpr_c x0 hcc r lo W hr
  have cI := fun (r : List Value) (lo : Nat) (W : World) (hr : GData.R lo W r x0) => implDataExpr_c x0 hcc r lo W hr
  obtain ⟨hk0, hl0⟩ := dataCnt_ok g0
  obtain ⟨hk1, hl1⟩ := deN_sm x0
  have hd : (decide ((1048576 : Int) - x0.bulk < 0)) = false := decide_eq_false (by omega)
  generalize hz1 : (1048576 : Int) - x0.bulk = n1 at *
  clear hz1 z0 g0 hcc
  unfold SePost at cS
  unfold DePost at cI
  generalize deN x0 = y at *
  generalize dataExprP x0 = bv at *
  generalize hny : y.length = ny at *
  replace hny := Lib.hid hny
  have Sform : ∀ {lo : Nat} {W : World} {v : Value}, Sl GNode.R 6 lo W v y → ∃ a c, v = .slice a ny c := fun h => by obtain ⟨a, c, rfl⟩ := h.form; rw [hny.out]; exact ⟨a, c, rfl⟩
  generalize hnx : x0.nodes.length = nx at *
  replace hnx := Lib.hid hnx
  have Dform : ∀ {lo : Nat} {W : World} {v : Value}, Sl GDNode.R 4 lo W v x0.nodes → ∃ a c, v = .slice a nx c := fun h => by obtain ⟨a, c, rfl⟩ := h.form; rw [hnx.out]; exact ⟨a, c, rfl⟩
  replace cT := Lib.hid cT; replace cS := Lib.hid cS; replace cI := Lib.hid cI; replace hk0 := Lib.hid hk0; replace hl0 := Lib.hid hl0; replace hk1 := Lib.hid hk1; replace hl1 := Lib.hid hl1; replace Hx0 := Lib.hid Hx0
  -- the reference's result
  go_upto_region 6 with (first
    | (go_at_call 6; (with_reducible refine (cT.out _ hw).mono ?_); rintro en w2 ⟨rt, bt, rfl, OT, -, fT, hb⟩; have RT := GData.ok.read OT fT; have hw2 := hw.trans (hb.mono hw.size); have hz2 := hb.size; have B2 := B.below hb)
    | (go_at_call 5; (with_reducible refine (cS.out _ _ _ RT).mono ?_); rintro en w3 ⟨vs, rfl, RS, hb⟩; obtain ⟨sa, sc, rfl⟩ := Sform RS; have hw3 := hw2.trans (hb.mono hw2.size); have hz3 := hb.size; have B3 := B2.below hb))
  obtain ⟨w4, hW4⟩ : ∃ W, W = w3.alloc (.cells #[.slice none 0 0, .slice sa ny sc] 29) := ⟨_, rfl⟩
  rw [← hW4]
  have hb4 : Below w3.heap.size w3 w4 := by rw [hW4]; go_grown
  have S : RowAt w4 w3.heap.size 0 [.slice none 0 0, .slice sa ny sc] := by rw [hW4]; exact RowAt.box w3 #[_, _] _
  have hs4 : w3.heap.size < w4.heap.size := by rw [hW4]; simp
  have hB4 : w.heap.size < w4.heap.size := by omega
  have RS := RS.below GNode.good hb4
  have B4 := B3.below hb4
  have hw4 := hw3.trans (hb4.mono hw3.size)
  obtain ⟨b4, hb4'⟩ : ∃ x, x = w3.heap.size := ⟨_, rfl⟩
  rw [← hb4'] at S hs4 ⊢
  clear hW4 hb4 OT fT RT B2 B3 hw3 hw2 b_0 hsB B hw
  replace RS := Lib.hid RS; replace hb4' := Lib.hid hb4'
  have b4_0 := B4.box1; have hsB4 := World.block_lt_of_cell? _ _ b4_0; dsimp only at hsB4
  -- the argument's copy
  go_upto_region 7 with (go_at_call 6; (with_reducible refine (cT.out _ hw4).mono ?_); rintro en w5 ⟨rx, bx, rfl, OX, ndX, fX, hb5⟩; obtain ⟨x0v, rfl, -, f0⟩ := id OX; obtain ⟨xa, xc, rfl⟩ := f0.form; rw [hnx.out] at OX ⊢; clear f0)
  have ltX := GData.ok.lt OX
  obtain ⟨w6, hW6⟩ : ∃ W, W = w5.alloc (.cells #[.slice xa nx xc] 34) := ⟨_, rfl⟩
  rw [← hW6]
  have hb6 : Below w5.heap.size w5 w6 := by rw [hW6]; go_grown
  have X : RowAt w6 w5.heap.size 0 [.slice xa nx xc] := by rw [hW6]; exact RowAt.box w5 #[_] _
  have hs6 : w5.heap.size < w6.heap.size := by rw [hW6]; simp
  have F6 : Below w4.heap.size w4 w6 := hb5.trans (hb6.mono hb5.size)
  have OX := GData.ok.below OX hb6
  have hz5 := hb5.size
  obtain ⟨b5, hb5'⟩ : ∃ x, x = w5.heap.size := ⟨_, rfl⟩
  rw [← hb5'] at X hs6 ltX hz5 ⊢
  clear hW6 hb6 hb5 b4_0 hsB4
  replace OX := Lib.hid OX; replace ndX := Lib.hid ndX; replace fX := Lib.hid fX; replace ltX := Lib.hid ltX; replace hb5' := Lib.hid hb5'
  have RX := Lib.hid (GData.ok.read OX.out fX.out)
  have x_0 := X.box1; have hsX := World.block_lt_of_cell? _ _ x_0; dsimp only at hsX
  -- the program's result
  go_upto_region 8 with (go_at_call 7; (with_reducible refine (cI.out _ _ _ RX.out).mono ?_); rintro en w7 ⟨ga, vg, pg, rfl, OG, hb7⟩; obtain ⟨gb, gc, rfl⟩ := Sform OG.reads)
  have ltG := OG.lt
  obtain ⟨bg, hbg⟩ : ∃ b, b = fpO (.slice gb ny gc) pg := ⟨_, rfl⟩
  have ndG := OG.nd
  have fG := OG.lo
  have OG : SlO 47 6 GNode.O bg w7 (.slice gb ny gc) y := by rw [hbg]; exact OG.grow.slO
  rw [← hbg] at ltG ndG fG
  obtain ⟨w8, hW8⟩ : ∃ W, W = w7.alloc (.cells #[.slice ga 0 0, .slice gb ny gc] 29) := ⟨_, rfl⟩
  rw [← hW8]
  have hb8 : Below w7.heap.size w7 w8 := by rw [hW8]; go_grown
  have G : RowAt w8 w7.heap.size 0 [.slice ga 0 0, .slice gb ny gc] := by rw [hW8]; exact RowAt.box w7 #[_, _] _
  have hs8 : w7.heap.size < w8.heap.size := by rw [hW8]; simp
  have F68 : Below w6.heap.size w6 w8 := hb7.trans (hb8.mono hb7.size)
  have F8 : Below w4.heap.size w4 w8 := F6.trans (F68.mono F6.size)
  have OG := SlO.below GNode.ok OG hb8
  have OX8 := GData.ok.below OX.out F68
  have X8 := X.below F68
  have S8 := S.below F8
  have B8 := B4.below F8
  have hz7 := hb7.size
  obtain ⟨b6, hb6'⟩ : ∃ x, x = w7.heap.size := ⟨_, rfl⟩
  rw [← hb6'] at G hs8 ltG hz7 ⊢
  clear hW8 hb8 hb7 hbg x_0 hsX OX RX
  replace OG := Lib.hid OG; replace ndG := Lib.hid ndG; replace fG := Lib.hid fG; replace ltG := Lib.hid ltG; replace hb6' := Lib.hid hb6'; replace OX8 := Lib.hid OX8
  -- what does not change: the reference's result; what stays by Below; equal ones are told equal
  have cE := fun (v : Value) (a : Option Addr) (lo : Nat) W (hr : Sl GNode.R 6 lo W v y) (hF : Below w4.heap.size w4 W) => eqProg_eq y v (.slice sa ny sc) a none lo _ W hr (RS.out.below GNode.good hF)
  have cE0 := fun (r r2 : List Value) (lo lo2 : Nat) W (hr : GData.R lo W r x0) (hr2 : GData.R lo2 W r2 x0) => eqData_eq x0 r r2 lo lo2 W hr hr2
  replace cE := Lib.hid cE; replace cE0 := Lib.hid cE0
  have hzz := F8.size
  obtain ⟨g_0, g_1⟩ := G.box2; have hsG := World.block_lt_of_cell? _ _ g_0; dsimp only at hsG; obtain ⟨s8_0, s8_1⟩ := S8.box2; have hsS8 := World.block_lt_of_cell? _ _ s8_0; dsimp only at hsS8
  go_upto_region 10 with (go_at_call 8; (with_reducible refine (cE.out _ _ _ _ (OG.out.sl GNode.ok fG.out) F8).mono ?_); rintro en w9 ⟨rfl, hb9⟩)
  have F9 := F8.trans (hb9.mono F8.size)
  have hw9 := hw4.trans (F9.mono hw4.size)
  have OG9 := Lib.hid (SlO.below GNode.ok OG.out hb9)
  have OX9 := Lib.hid (GData.ok.below OX8.out hb9)
  have G9 := G.below hb9
  have S9 := S8.below hb9
  have X9 := X8.below hb9
  have B9 := B8.below hb9
  have hz9 := hb9.size
  clear g_0 g_1 hsG s8_0 s8_1 hsS8 OG OX8 hb9
  have b9_0 := B9.box1; have hsB9 := World.block_lt_of_cell? _ _ b9_0; dsimp only at hsB9; have x9_0 := X9.box1; have hsX9 := World.block_lt_of_cell? _ _ x9_0; dsimp only at hsX9
  -- the argument is as it was
  go_region_held3 (fun w' => w'.cell? ⟨b5, 0, none⟩ = some (.slice xa nx xc) ∧ w'.cell? ⟨w.heap.size, 0, none⟩ = some (.slice ua nx uc)) (first | exact ⟨x9_0, b9_0⟩ | go_keep)
    (first
      | (go_at_call 6; (with_reducible refine (cT.out _ (hw9.trans (by go_grown))).mono ?_); rintro en w10 ⟨rt, bt, rfl, OT, -, fT, hb10⟩; have hb10' : Below w9.heap.size w9 w10 := (show Below w9.heap.size w9 w9.drew by go_grown).trans (hb10.mono (by go_grown)); have RT := Lib.hid (GData.ok.read OT fT); have X10 := X9.below hb10'; have B10 := B9.below hb10'; have x10_0 := X10.box1; have hsX10 := World.block_lt_of_cell? _ _ x10_0; dsimp only at hsX10; have b10_0 := B10.box1; have hsB10 := World.block_lt_of_cell? _ _ b10_0; dsimp only at hsB10; clear OT fT hb10)
      | (go_at_call 9; (with_reducible refine (cE0.out _ _ _ _ _ (GData.ok.read (GData.ok.below OX9.out hb10') fX.out) RT.out).mono ?_); rintro en w11 ⟨rfl, hb11⟩; have hb911 : Below w9.heap.size w9 w11 := hb10'.trans (hb11.mono hb10'.size); have X11 := X9.below hb911; have B11 := B9.below hb911; have x11_0 := X11.box1; have hsX11 := World.block_lt_of_cell? _ _ x11_0; dsimp only at hsX11; have b11_0 := B11.box1; have hsB11 := World.block_lt_of_cell? _ _ b11_0; dsimp only at hsB11))
  all_goals
    have F11 := F9.trans (hb911.mono F9.size)
    have G11 := G9.below hb911
    have S11 := S9.below hb911
    have OG11 := Lib.hid (SlO.below GNode.ok OG9.out hb911)
    have OX11 := Lib.hid (GData.ok.below OX9.out hb911)
    have hz11 := hb911.size
    have h46 := F6.size
    have cM := markDataO_c _ bx 1 w4.heap.size 1 rfl x0 w11 OX11.out ndX.out fX.out (by omega) hk0.out hl0.out
    obtain ⟨kx, hkx⟩ : ∃ k : Nat, k = 1 + cntData x0 := ⟨_, rfl⟩
    rw [← hkx] at cM
    clear hkx
    have dk : decide ((kx : Int) < 0) = false := decide_eq_false (by omega)
    replace cM := Lib.hid cM
    clear hb911 hb10' hb11 OG9 OX9 RT X10 B10 x9_0 b9_0
    have hxg : ∀ b ∈ bg, b ∉ bx := fun b h1 h2 => by have := fG.out b h1; have := ltX.out b h2; omega
    have hnx2 : ∀ b, b ∈ bx → w4.heap.size ≤ b ∧ b < b5 := fun b h => ⟨fX.out b h, ltX.out b h⟩
    have hng : ∀ b, b ∈ bg → w6.heap.size ≤ b ∧ b < b6 := fun b h => ⟨fG.out b h, ltG.out b h⟩
    replace hxg := Lib.hid hxg; replace hnx2 := Lib.hid hnx2; replace hng := Lib.hid hng
    go_upto_region 14 with (go_at_call 10; (with_reducible refine (cM.out).mono ?_); rintro en w12 ⟨rfl, -, hK12, hb12⟩)
    have F12 := F11.trans hb12
    have G12 := G11.kept hK12 (fun h => by have := hnx2.out _ h; omega)
    have S12 := S11.kept hK12 (fun h => by have := hnx2.out _ h; omega)
    have B12 := B11.kept hK12 (fun h => by have := hnx2.out _ h; omega)
    have OG12 := Lib.hid (SlO.kept GNode.ok OG11.out hK12 (fun b h1 h2 => hxg.out b h1 h2))
    have hz12 := hb12.size
    clear hK12 hb12 cM OX11 X11 x11_0 hsX11 b11_0 hsB11 OG11 G11 S11 B11
    obtain ⟨g12_0, g12_1⟩ := G12.box2; have hsG12 := World.block_lt_of_cell? _ _ g12_0; dsimp only at hsG12; obtain ⟨s12_0, s12_1⟩ := S12.box2; have hsS12 := World.block_lt_of_cell? _ _ s12_0; dsimp only at hsS12
    go_upto_region 16 with (go_at_call 8; (with_reducible refine (cE.out _ _ _ _ (OG12.out.sl GNode.ok fG.out) F12).mono ?_); rintro en w13 ⟨rfl, hb13⟩)
    have F13 := F12.trans (hb13.mono F12.size)
    have G13 := G12.below hb13
    have S13 := S12.below hb13
    have B13 := B12.below hb13
    have OG13 := SlO.below GNode.ok OG12.out hb13
    have hz13 := hb13.size
    have cM := markProg_c ga _ bg 1 w6.heap.size 1 rfl y w13 OG13 ndG.out fG.out (by omega) hk1.out hl1.out
    obtain ⟨ky, hky⟩ : ∃ k : Nat, k = 1 + cntL cntNode y := ⟨_, rfl⟩
    rw [← hky] at cM
    have dm : decide ((ky : Int) < 0) = false := decide_eq_false (by omega)
    replace cM := Lib.hid cM; replace hky := Lib.hid hky
    clear hb13 OG13 OG12 g12_0 g12_1 s12_0 s12_1 G12 S12 B12 hsG12 hsS12
    obtain ⟨g13_0, g13_1⟩ := G13.box2; have hsG13 := World.block_lt_of_cell? _ _ g13_0; dsimp only at hsG13
    go_upto_region 18 with (go_at_call 11; (with_reducible refine (cM.out).mono ?_); rintro en w14 ⟨rfl, OG14, hK14, hb14⟩)
    have F14 := F13.trans (hb14.mono h46)
    have G14 := G13.kept hK14 (fun h => by have := hng.out _ h; omega)
    have S14 := S13.kept hK14 (fun h => by have := hng.out _ h; omega)
    have B14 := B13.kept hK14 (fun h => by have := hng.out _ h; omega)
    have RG14 := Lib.hid (OG14.sl GNode.ok fG.out)
    have cH := fun W (hW : Below w14.heap.size w14 W) => heldProg_c ga (.slice gb ny gc) 1 _ 1 rfl y W (RG14.out.below GNode.good hW) hk1.out hl1.out
    rw [← hky.out] at cH
    replace cH := Lib.hid cH
    have hz14 := hb14.size
    clear hK14 hb14 cM OG14 RG14 g13_0 g13_1 hsG13 G13 S13 B13
    obtain ⟨g14_0, g14_1⟩ := G14.box2; have hsG14 := World.block_lt_of_cell? _ _ g14_0; dsimp only at hsG14
    go_upto_region 20 with (go_at_call 12; (with_reducible refine (cH.out _ (Below.refl _ _)).mono ?_); rintro en w15 ⟨rfl, hb15⟩)
    have F15 := F14.trans (hb15.mono F14.size)
    have G15 := G14.below hb15
    have S15 := S14.below hb15
    have B15 := B14.below hb15
    have hw15 := hw4.trans (F15.mono hw4.size)
    have hz15 := hb15.size
    clear g14_0 g14_1 hsG14 G14 S14 B14
    have b15_0 := B15.box1; have hsB15 := World.block_lt_of_cell? _ _ b15_0; dsimp only at hsB15
    have cT2 := fun W (hW : Below w15.heap.size w15 W) => cT.out W (hw15.trans (hW.mono hw15.size))
    replace cT2 := Lib.hid cT2
    go_upto_region 25 with (first
      | (go_at_call 6; (with_reducible refine (cT2.out _ (Below.refl _ _)).mono ?_); rintro en w16 ⟨rt, bt, rfl, OT, -, fT, hb16⟩; have RT := GData.ok.read OT fT; have G16 := G15.below hb16; have S16 := S15.below hb16; have hz16 := hb16.size)
      | (go_at_call 7; (with_reducible refine (cI.out _ _ _ RT).mono ?_); rintro en w17 ⟨ha, vh, ph, rfl, OH, hb17⟩; have RH := OH.reads; obtain ⟨hb', hc', rfl⟩ := Sform RH; have hb1517 : Below w15.heap.size w15 w17 := hb16.trans (hb17.mono hb16.size)))
    obtain ⟨w18, hW18⟩ : ∃ W, W = w17.alloc (.cells #[.slice ha 0 0, .slice hb' ny hc'] 29) := ⟨_, rfl⟩
    rw [← hW18]
    have hb18 : Below w17.heap.size w17 w18 := by rw [hW18]; go_grown
    have H : RowAt w18 w17.heap.size 0 [.slice ha 0 0, .slice hb' ny hc'] := by rw [hW18]; exact RowAt.box w17 #[_, _] _
    have hb1518 := hb1517.trans (hb18.mono hb1517.size)
    have RH := Lib.hid (RH.below GNode.good hb18)
    have F18 := F15.trans (hb1518.mono F15.size)
    have G18 := G15.below hb1518
    have S18 := S15.below hb1518
    have hb1418 := hb15.trans (hb1518.mono hb15.size)
    obtain ⟨b10, hb10'⟩ : ∃ x, x = w17.heap.size := ⟨_, rfl⟩
    rw [← hb10'] at H ⊢
    clear hW18 hb18 OT fT RT OH G16 S16 b15_0 hsB15 G15 S15 B15
    replace hb10' := Lib.hid hb10'
    obtain ⟨h_0, h_1⟩ := H.box2; have hsH := World.block_lt_of_cell? _ _ h_0; dsimp only at hsH; obtain ⟨s18_0, s18_1⟩ := S18.box2; have hsS18 := World.block_lt_of_cell? _ _ s18_0; dsimp only at hsS18
    go_upto_region 27 with (go_at_call 8; (with_reducible refine (cE.out _ _ _ _ RH.out F18).mono ?_); rintro en w19 ⟨rfl, hb19⟩)
    have G19 := G18.below hb19
    have hb1419 := hb1418.trans (hb19.mono hb1418.size)
    have F19 := F18.trans (hb19.mono F18.size)
    have hw19 := hw4.trans (F19.mono hw4.size)
    clear h_0 h_1 s18_0 s18_1 hsS18 hsH
    obtain ⟨g19_0, g19_1⟩ := G19.box2; have hsG19 := World.block_lt_of_cell? _ _ g19_0; dsimp only at hsG19
    go_wp2_with (go_at_call 12; (with_reducible refine (cH.out _ hb1419).mono ?_); rintro en w20 ⟨rfl, hb20⟩)
    go_returns
    exact ⟨rfl, hw19.trans (hb20.mono hw19.size)⟩
end fnExactDataExpr
end Go.Proofs.YtnmmfcnkpcigoaaGreat
