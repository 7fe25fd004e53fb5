/- Parts of the proof, merged: Reach5. -/
import Derived.Test.YtfobkbjabenkkaaGreatPe34
/- Reached: the reference's. -/
namespace Go.Proofs.YtfobkbjabenkkaaGreat
open Go.RowKit
set_option linter.unusedVariables false
set_option linter.unusedSimpArgs false
attribute [local go_sem] Ext.cell

/-- Two slices that the call owns: flags, a list of places. -/
structure R2 (lo : Nat) (w : World) (gm n cm gl nl cl : Nat) (fs : List Bool) (l : List Int) : Prop where
  fl : OwnF 4 1 boolRow (fun _ => True) lo w (.slice (some ⟨gm, 0, none⟩) n cm) fs
  ls : OwnF 3 1 intRow I64 lo w (.slice (some ⟨gl, 0, none⟩) nl cl) l
  lf : fs.length = n
  ll : l.length = nl
  ne : gm ≠ gl
section
variable {lo : Nat} {w w' w1 : World} {gm n cm gl nl cl : Nat} {fs : List Bool} {l : List Int}
theorem R2.bl (R : R2 lo w gm n cm gl nl cl fs l) : (lo ≤ gm ∧ gm < w.heap.size) ∧ (lo ≤ gl ∧ gl < w.heap.size) := ⟨R.fl.base gm rfl, R.ls.base gl rfl⟩
theorem R2.below (R : R2 lo w gm n cm gl nl cl fs l) (hb : Below w.heap.size w w') : R2 lo w' gm n cm gl nl cl fs l := ⟨R.fl.below hb, R.ls.below hb, R.lf, R.ll, R.ne⟩
theorem R2.flag {k : Nat} (R : R2 lo w gm n cm gl nl cl fs l) (hk : k < n) (b : Bool) : R2 lo (w.setCell ⟨gm, k, none⟩ (.bool b)) gm n cm gl nl cl (fs.set k b) l := by
  have K : Kept (· = gm) w (w.setCell ⟨gm, k, none⟩ (.bool b)) := Kept.set (S := (· = gm)) (p := ⟨gm, k, none⟩) (Kept.refl _ _) rfl _
  refine ⟨R.fl.set1 flatBool (by rw [R.lf]; exact hk) rfl trivial, R.ls.kept K fun g hg e => ?_, by rw [List.length_set]; exact R.lf, R.ll, R.ne⟩
  injection hg with hg; exact R.ne (by rw [← e, ← hg])
theorem R2.ls_new {g m c : Nat} {l' : List Int} (R : R2 lo w gm n cm gl nl cl fs l) (hb : Below w.heap.size w w1) (hg : w1.grownBy w' (some gl)) (hat : g = gl ∨ w.heap.size ≤ g) (h : OwnF 3 1 intRow I64 lo w' (.slice (some ⟨g, 0, none⟩) m c) l') (hl : l'.length = m) : R2 lo w' gm n cm g m c fs l' := by
  have K := kept_of hg hb
  obtain ⟨⟨a1, a2⟩, ⟨b1, b2⟩⟩ := R.bl
  have n1 := R.ne
  refine ⟨R.fl.kept K fun q hq e => ?_, h, R.lf, hl, ?_⟩
  · injection hq with hq; injection e with e; exact n1 (by rw [← e, ← hq])
  · rcases hat with rfl | hat
    · exact n1
    · omega
end
theorem rcList_succ (nx : Nat → List Nat) (k : Nat) : (Rc nx k → rcList nx (k + 1) = rcList nx k ++ [(k : Int)]) ∧ (¬ Rc nx k → rcList nx (k + 1) = rcList nx k) := by
  unfold rcList
  rw [List.range_succ, List.filter_append, List.map_append]
  constructor
  · intro h; congr 1; simp [h]
  · intro h; simp [h]
theorem rcList_len (nx : Nat → List Nat) (k : Nat) : (rcList nx k).length ≤ k := by
  unfold rcList
  rw [List.length_map]
  exact Nat.le_trans (List.length_filter_le _ _) (by rw [List.length_range]; exact Nat.le_refl _)
theorem nx_len (is : List GIns) (i : Nat) : (nxP is i).length ≤ 2 := by
  unfold nxP
  rw [List.length_append, List.length_map]
  have := tgt_len (insAt is (i : Int))
  split <;> simp <;> omega
theorem rcList_zero (nx : Nat → List Nat) : rcList nx 0 = [] := rfl

set_option maxRecDepth 100000 in
set_option maxHeartbeats 16000000 in
theorem specReached_c (c : GCode) (hS : CodeCopy c) (r : List Value) (lo : Nat) (w : World) (hr : GCode.R lo w r c) :
    Calls Tryz.prog 36 #[.agg r.toArray] w fun e w' => ∃ v, e = .returned v ∧ Sl IntR 1 w.heap.size w' v (reachedP c) ∧ Below w.heap.size w w' := by
  have cK := fun W (hW : Below w.heap.size w W) => specCodeOk_c c hS.small r lo W (GCode.good.below hr hW)
  obtain ⟨u0, u1, rfl, _, h0, h1⟩ := hr
  obtain ⟨ia, ic, rfl, il, im, h0⟩ := h0
  obtain ⟨pa, pc, rfl⟩ := h1.form
  cases hq : codeOk c
  · rw [hq] at cK
    have hres : reachedP c = [] := by unfold reachedP; rw [if_neg (by rw [hq]; simp)]
    rw [hres]
    clear hq h0 h1 il im hS hres
    replace cK := Lib.hid cK
    generalize c.ins.length = n at *
    generalize c.pats.length = m at *
    go_enter Tryz.func36, Tryz.ntmps36
    go_upto_region 1 with fail
    have C : RowAt (w.alloc (.cells #[.slice ia n ic, .slice pa m pc] 30)) (w.heap.size) 0 [.slice ia n ic, .slice pa m pc] := RowAt.box w #[.slice ia n ic, .slice pa m pc] 30
    have hw : Below w.heap.size w (w.alloc (.cells #[.slice ia n ic, .slice pa m pc] 30)) := by go_grown
    generalize (w.alloc (.cells #[.slice ia n ic, .slice pa m pc] 30)) = w0 at *
    obtain ⟨c_0, c_1⟩ := C.box2; have hsC := World.block_lt_of_cell? _ _ c_0; dsimp only at hsC
    go_wp2_with (go_at_call 13; ((with_reducible refine (cK.out _ hw).mono ?_); rintro e w1 ⟨rfl, hb⟩; have hw := hw.trans (hb.mono hw.size); have C := C.below hb; obtain ⟨c_0, c_1⟩ := C.box2; have hsC := World.block_lt_of_cell? _ _ c_0; dsimp only at hsC; clear hb))
    go_returns
    exact ⟨_, rfl, Sl.nil, hw⟩
  · rw [hq] at cK
    obtain ⟨n1, n2, _, _⟩ := codeOk_all hq
    have hL := codeOk_leads hq
    have hA := codeOk_arms hq
    obtain ⟨n, hn⟩ : ∃ n, n = c.ins.length := ⟨_, rfl⟩
    obtain ⟨m, hm⟩ : ∃ m, m = c.pats.length := ⟨_, rfl⟩
    have hbad : ∀ i, Rc (nxP c.ins) i → okP c.ins i = false → reachedP c = [] := fun i h1 h2 => by
      unfold reachedP
      rw [if_neg fun h => by have := h.2 i h1; rw [h2] at this; cases this]
    have hgood : (∀ i, Rc (nxP c.ins) i → okP c.ins i = true) → reachedP c = rcList (nxP c.ins) c.ins.length := fun h => by
      unfold reachedP
      rw [if_pos ⟨hq, h⟩]
    obtain ⟨is, qs⟩ := c
    dsimp only at *
    have hin := fun i (hi : i < is.length) => tgt_in hL hA hi
    have hnx := fun i (hi : i < is.length) (ho : okP is i = true) => nx_in hL hA hi ho
    generalize reachedP ⟨is, qs⟩ = Rr at *
    rw [← hn] at il n1 n2 hgood
    rw [← hn, ← hm] at cK ⊢
    have cN := fun (k : Nat) (hk : k < n) W (hW : Below w.heap.size w W) => l18Next_c is ia pa n m ic pc lo hn (by omega) k hk (hin k (by omega)) W (h0.below GIns.good hW)
    clear h1 hS hq hL hA hin
    replace hn := Lib.hid hn; replace hm := Lib.hid hm; replace h0 := Lib.hid h0; replace cK := Lib.hid cK; replace hbad := Lib.hid hbad; replace hgood := Lib.hid hgood; replace hnx := Lib.hid hnx; replace cN := Lib.hid cN
    obtain ⟨iJ, hi0, hz0, hz1, hz2⟩ := info_parts info_IntS; have IJ := Lib.hid hi0; have IJ0 := Lib.hid hz0; have IJ1 := Lib.hid hz1; have IJ2 := Lib.hid hz2; clear hi0 hz0 hz1 hz2
    obtain ⟨iB, hi0, hz0, hz1, hz2⟩ := info_parts info_boolS; have IB := Lib.hid hi0; have IB0 := Lib.hid hz0; have IB1 := Lib.hid hz1; have IB2 := Lib.hid hz2; clear hi0 hz0 hz1 hz2
    go_enter Tryz.func36, Tryz.ntmps36
    go_upto_region 1 with fail
    have C : RowAt (w.alloc (.cells #[.slice ia n ic, .slice pa m pc] 30)) (w.heap.size) 0 [.slice ia n ic, .slice pa m pc] := RowAt.box w #[.slice ia n ic, .slice pa m pc] 30
    have hw : Below w.heap.size w (w.alloc (.cells #[.slice ia n ic, .slice pa m pc] 30)) := by go_grown
    generalize (w.alloc (.cells #[.slice ia n ic, .slice pa m pc] 30)) = w0 at *
    obtain ⟨c_0, c_1⟩ := C.box2; have hsC := World.block_lt_of_cell? _ _ c_0; dsimp only at hsC
    go_upto_region 3 with (go_at_call 13; ((with_reducible refine (cK.out _ hw).mono ?_); rintro e w1 ⟨rfl, hb⟩; have hw := hw.trans (hb.mono hw.size); have C := C.below hb; obtain ⟨c_0, c_1⟩ := C.box2; have hsC := World.block_lt_of_cell? _ _ c_0; dsimp only at hsC; clear hb))
    have hz1 := hw.size
    go_upto_region 4 with (at_make; refine wpList_make_full _ rfl _ _ _ rfl w1.heap.size 4 iB _ 1 Tryz.underlying86 IB.out IB0.out IB1.out _ _ _ _ n rfl rfl rfl rfl (by rw [IB2.out]; omega) (by unfold maxLen; omega) (by simp) ?_; intro w2 hOm hgw)
    rw [show (Value.bool false).cells = #[.bool false] from rfl, made_false] at hOm
    have hz2 : w1.heap.size < w2.heap.size := (own_base hOm _ rfl).2
    have hb2 : Below w1.heap.size w1 w2 := below_grown (Below.refl _ _) (Nat.le_refl _) (own_none (e := 4) (size := 1)) hgw
    have C2 := C.below hb2
    have hw2 := hw.trans (hb2.mono hw.size)
    have hFl : OwnF 4 1 boolRow (fun _ => True) w1.heap.size w2 (.slice (some ⟨w1.heap.size, 0, none⟩) n n) (List.replicate n false) := ⟨by rw [List.length_replicate]; exact hOm, fun _ _ => trivial⟩
    clear hOm hgw
    go_upto_region 5 with fail
    obtain ⟨w3, hW3⟩ : ∃ W, W = w2.alloc (.cells #[.int .i64 0] 3) := ⟨_, rfl⟩
    rw [← hW3]
    have hb3 : Below w2.heap.size w2 w3 := by rw [hW3]; go_grown
    have C3 := C2.below hb3
    have hw3 := hw2.trans (hb3.mono hw2.size)
    have O1 : OwnF 3 1 intRow I64 w1.heap.size w3 (.slice (some ⟨w2.heap.size, 0, none⟩) 1 1) [0] := by
      rw [hW3]; exact own_one w2 0 (by constructor <;> decide) _ (by omega)
    obtain ⟨B, hB⟩ : ∃ B, B = w1.heap.size := ⟨_, rfl⟩
    have hR : R2 B w3 B n n w2.heap.size 1 1 (List.replicate n false) [0] := by
      rw [hB]
      exact ⟨hFl.below hb3, O1, by simp, rfl, by omega⟩
    have hD : Bfs (nxP is) (okP is) n ((List.replicate n false).set 0 true) [0] 0 := Bfs.start (by omega)
    have hBC : w.heap.size < B := by omega
    rw [← hB]
    clear hW3 hb3 O1 hFl C C2 hw hw2 hb2 hz1 hz2 c_0 c_1 hsC
    obtain ⟨m_0, m_f⟩ := hR.fl.at1 flatBool (k := 0) (x := false) (by rw [List.getElem?_replicate, if_pos (by omega)]) rfl
    have hR' := hR.flag (k := 0) (by omega) true
    replace hR' := Lib.hid hR'; replace hD := Lib.hid hD; replace hB := Lib.hid hB
    clear hR
    go_upto_region 6 with fail
    obtain ⟨w4, hW4⟩ : ∃ W, W = w3.setCell ⟨B, 0, none⟩ (.bool true) := ⟨_, rfl⟩
    rw [← hW4] at hR' ⊢
    have hw4 : Below w.heap.size w w4 := by rw [hW4]; exact hw3.setCell (p := ⟨B, 0, none⟩) (Nat.le_of_lt hBC) _
    have C4 : RowAt w4 w.heap.size 0 [.slice ia n ic, .slice pa m pc] := C3.kept (S := (· = B)) (by rw [hW4]; exact Kept.set (S := (· = B)) (p := ⟨B, 0, none⟩) (Kept.refl _ _) rfl _) (by omega)
    clear hW4 C3 hw3 m_0 m_f
    go_wp2_with fail
    go_loopw [4, 5] (fun v i wr => ∃ (gl nl cl k : Nat) (fs : List Bool) (l : List Int), v = .slice (some ⟨gl, 0, none⟩) nl cl ∧ i = .int .i64 k ∧ k ≤ nl ∧ Below w.heap.size w wr ∧ RowAt wr w.heap.size 0 [.slice ia n ic, .slice pa m pc] ∧ Hid (R2 B wr B n n gl nl cl fs l) ∧ Hid (Bfs (nxP is) (okP is) n fs l k)) (fun _ i _ => n - (intOf i).toNat)
    case atStart => exact ⟨w2.heap.size, 1, 1, 0, _, _, rfl, rfl, by omega, hw4, C4, hR', hD⟩
    case round =>
      clear hw4 C4 hR' hD
      obtain ⟨gl, nl, cl, k, fs, l, rfl, rfl, hk, hw, C, hR, hD⟩ := hrel
      have hnl : nl ≤ n := by have := hD.out.le; rw [hR.out.ll] at this; exact this
      by_cases hlt : k < nl
      · have hkl : k < l.length := by rw [hR.out.ll]; exact hlt
        obtain ⟨x, hx⟩ : ∃ x, l[k]? = some x := ⟨_, List.getElem?_eq_getElem hkl⟩
        obtain ⟨p, rfl, hp⟩ := (hD.out.lm x).1 (List.mem_of_getElem? hx)
        have hpn : p < n := by have := (List.getElem?_eq_some_iff.1 hp).1; rw [hD.out.len] at this; exact this
        have hrc := hD.out.rc p hp
        have x_0 := (hR.out.ls.at1 flatInt hx rfl).1
        have cNk := cN.out p hpn
        have hbp := hbad.out p hrc
        obtain ⟨c_0, c_1⟩ := C.box2; have hsC := World.block_lt_of_cell? _ _ c_0; dsimp only at hsC
        have hD1 := hD.out
        have hnxp := hnx.out p (by rw [← hn.out]; exact hpn)
        rw [← hn.out] at hnxp
        have hnl3 : nl ≤ 3000 := by omega
        have hzr := hw.size
        cases ho : okP is p
        · rw [ho] at cNk
          have hres := hbp ho
          replace hres := Lib.hid hres; replace cNk := Lib.hid cNk; replace hrc := Lib.hid hrc; replace hx := Lib.hid hx; replace hp := Lib.hid hp; replace ho := Lib.hid ho; replace hD1 := Lib.hid hD1
          clear hbp hnxp
          go_upto_region 9 with fail
          go_region_law (go_simp; go_at_call 65; (with_reducible refine (cNk.out _ (hw.trans (by go_grown))).mono ?_); rintro e w5 ⟨nv, rfl, hN, hb⟩; have hw5 := (hw.trans (show Below w.heap.size wr wr.drew by go_grown)).trans (hb.mono (by go_grown)); clear hb hN)
          all_goals
            go_wp2_with fail
            go_returns
            rw [hres.out]
            exact ⟨_, rfl, Sl.nil, hw5⟩
        · rw [ho] at cNk
          have hnl' := hnxp ho
          have hst : ∀ j ∈ nxP is p, Rc (nxP is) j := fun j hj => .step hrc hj
          generalize hns : (nxP is p).map (fun (j : Nat) => (j : Int)) = ns at *
          replace cNk := Lib.hid cNk; replace hrc := Lib.hid hrc; replace hx := Lib.hid hx; replace hp := Lib.hid hp; replace ho := Lib.hid ho; replace hD1 := Lib.hid hD1; replace hnl' := Lib.hid hnl'; replace hst := Lib.hid hst; replace hns := Lib.hid hns
          clear hbp hnxp
          go_upto_region 9 with fail
          go_region_law (go_simp; go_at_call 65; (with_reducible refine (cNk.out _ (hw.trans (by go_grown))).mono ?_); rintro e w5 ⟨nv, rfl, hN, hb⟩; have hw5 := (hw.trans (show Below w.heap.size wr wr.drew by go_grown)).trans (hb.mono (by go_grown)); have hb5 := (show Below wr.heap.size wr wr.drew by go_grown).trans (hb.mono (by go_grown)); clear hb)
          all_goals
            have hN' : OwnF 3 1 intRow I64 wr.heap.size w5 nv ns := hN
            obtain ⟨va, vc, rfl⟩ := hN'.form
            have C5 := C.below hb5
            have R5 := hR.out.below hb5
            obtain ⟨nn, hnn⟩ : ∃ x, x = ns.length := ⟨_, rfl⟩
            obtain ⟨Wz, hWz⟩ : ∃ x, x = wr.heap.size := ⟨_, rfl⟩
            rw [← hWz] at hN' hzr
            have hbN := hN'.base
            have hbl := hR.out.bl
            rw [← hnn] at hN' hbN ⊢
            have hNR : ∀ g, va = some ⟨g, 0, none⟩ → g ≠ B ∧ g ≠ gl := fun g hg => by
              have := hbN g (by rw [hg]; rfl); omega
            have hN5 : OwnF 3 1 intRow I64 Wz w5 (.slice va nn vc) ns := hN'
            have hnn2 : nn ≤ 2 := by rw [hnn, ← hns.out, List.length_map]; exact nx_len is p
            replace hWz := Lib.hid hWz; replace hnn := Lib.hid hnn; replace R5 := Lib.hid R5; replace hN5 := Lib.hid hN5; replace hNR := Lib.hid hNR
            clear hN hN' hbN hR hD C hw c_0 c_1 hsC x_0 cNk hb5
            obtain ⟨c5_0, c5_1⟩ := C5.box2; have hsC5 := World.block_lt_of_cell? _ _ c5_0; dsimp only at hsC5
            go_wp2_with fail
            go_loopw [4, 42] (fun v i wx => ∃ (gl nl cl j : Nat) (fs : List Bool) (l : List Int), v = .slice (some ⟨gl, 0, none⟩) nl cl ∧ i = .int .i64 j ∧ j ≤ nn ∧ k < nl ∧ Below w.heap.size w wx ∧ RowAt wx w.heap.size 0 [.slice ia n ic, .slice pa m pc] ∧ Hid (R2 B wx B n n gl nl cl fs l) ∧ Hid (Bfs (nxP is) (okP is) n fs l k) ∧ Hid (l[k]? = some (p : Int)) ∧ Hid (OwnF 3 1 intRow I64 Wz wx (.slice va nn vc) ns) ∧ Hid (∀ g, va = some ⟨g, 0, none⟩ → g ≠ B ∧ g ≠ gl) ∧ Hid (∀ (t q : Nat), t < j → (nxP is p)[t]? = some q → fs[q]? = some true)) (fun _ i _ => nn - (intOf i).toNat)
            case atStart => exact ⟨gl, nl, cl, 0, _, _, rfl, rfl, by omega, hlt, hw5, C5, R5, hD1, hx, hN5, hNR, fun t q ht => by omega⟩
            case round =>
              clear hw5 C5 R5 hD1 hx hN5 hNR c5_0 c5_1 hsC5 hbl hnl3 hnl hlt hk hp
              obtain ⟨gl, nl, cl, j, fs, l, rfl, rfl, hj, hknl, hw, C, hR, hD, hx, hN, hNR, hall⟩ := hrel
              have hnl : nl ≤ n := by have := hD.out.le; rw [hR.out.ll] at this; exact this
              have hnl3 : nl ≤ 3000 := by omega
              obtain ⟨c_0, c_1⟩ := C.box2; have hsC := World.block_lt_of_cell? _ _ c_0; dsimp only at hsC
              by_cases hjl : j < nn
              · obtain ⟨g, cg, hv, hg1, hg2, -, -, -⟩ := own_cells hN.out.1 (by rw [← hnn.out]; omega)
                obtain ⟨rfl, rfl⟩ : va = some ⟨g, 0, none⟩ ∧ vc = cg := by injection hv with e1 e2 e3; exact ⟨e1, e3⟩
                obtain ⟨hg3, hg4⟩ := hNR.out g rfl
                obtain ⟨q, hq⟩ : ∃ q, (nxP is p)[j]? = some q := ⟨_, List.getElem?_eq_getElem (by have := hnn.out; rw [← hns.out, List.length_map] at this; omega)⟩
                have hqm := List.mem_of_getElem? hq
                have hqn := hnl'.out q hqm
                have hqs : ns[j]? = some (q : Int) := by rw [← hns.out, List.getElem?_map, hq]; rfl
                have n_0 := (hN.out.at1 flatInt hqs rfl).1
                obtain ⟨b, hb⟩ : ∃ b, fs[q]? = some b := ⟨_, List.getElem?_eq_getElem (by rw [hR.out.lf]; exact hqn)⟩
                obtain ⟨m_0, m_f⟩ := hR.out.fl.at1 flatBool hb rfl
                clear hv
                cases b
                · have hRq := hst.out q hqm
                  obtain ⟨w6, hW6⟩ : ∃ W, W = wr.setCell ⟨B, q, none⟩ (.bool true) := ⟨_, rfl⟩
                  have K6 : Kept (· = B) wr w6 := by rw [hW6]; exact Kept.set (S := (· = B)) (p := ⟨B, q, none⟩) (Kept.refl _ _) rfl _
                  have R6 := hR.out.flag hqn true
                  rw [← hW6] at R6
                  have hw6 : Below w.heap.size w w6 := by rw [hW6]; exact hw.setCell (p := ⟨B, q, none⟩) (Nat.le_of_lt hBC) _
                  have C6 := C.kept K6 (by omega)
                  have N6 := hN.out.kept K6 (fun x hx e => by have hx : g = x := Option.some.inj hx; exact hg3 (hx.trans e))
                  have hz6 : wr.heap.size = w6.heap.size := by rw [hW6]; simp [World.setCell]
                  have hbl6 := R6.bl
                  have hll := R6.ll
                  have hO6 := R6.ls.1
                  rw [hll] at hO6
                  have hq64 : I64 ((q : Nat) : Int) := by constructor <;> omega
                  have hwf6 := R6.ls.2
                  have hDn := hD.out.add hqn hb hRq (by rw [hll]; omega)
                  have hl7 := hDn.le
                  rw [List.length_append, hll] at hl7
                  replace R6 := Lib.hid R6; replace N6 := Lib.hid N6; replace hq64 := Lib.hid hq64; replace hwf6 := Lib.hid hwf6; replace hll := Lib.hid hll; replace hDn := Lib.hid hDn; replace hb := Lib.hid hb; replace hq := Lib.hid hq; replace hRq := Lib.hid hRq; replace hqs := Lib.hid hqs; replace hqm := Lib.hid hqm
                  go_upto_region 17 with fail
                  rw [← hW6]
                  clear hW6 K6 n_0 m_0 m_f hR hD hN c_0 c_1 hsC C
                  go_wp2_with (at_builtin; refine wpList_append_lies _ rfl _ _ _ rfl (B) 3 iJ _ 1 8 Tryz.underlying60 IJ.out IJ0.out IJ1.out IJ2.out rfl (by omega) (.slice (some ⟨gl, 0, none⟩) nl cl) (nl) (rowsOf intRow l) rfl (own_below hO6 (by go_grown)) ⟨w6.heap.size, 0, none⟩ 1 1 [.int .i64 (q : Int)] rfl rfl (World.news_of_block (cs := #[.int .i64 (q : Int)]) (t := 3) (fr := (0, 0)) (heap_alloc_new' _ _ _ (by simp))) (by intro u hu; simp at hu; (first | (subst hu; rfl) | (rcases hu with rfl | rfl | rfl | rfl <;> rfl) | (rcases hu with rfl | rfl | rfl | rfl | rfl | rfl | rfl | rfl | rfl <;> rfl))) (by omega) (by unfold maxLen; omega) (by omega) (by simp; omega) _ rfl ?_; intro g3 cap3 w7 hown hgrow hat hlt2)
                  have R7 := R6.out.ls_new (w' := w7) (w1 := w6.alloc (.cells #[.int .i64 (q : Int)] 3)) (by go_grown) hgrow (by
                    rcases hat with h | h
                    · injection h with h; exact .inl h.symm
                    · exact .inr (by rw [h]; simp)) (ints_snoc hll.out hown hwf6.out hq64.out) (by rw [List.length_append, hll.out]; rfl)
                  have K7 := kept_of hgrow (w := w6) (by go_grown)
                  have hw7 : Below w.heap.size w w7 := below_grown2 (wr := w6) (w := w) (base := w.heap.size) hgrow (by go_grown) hw6 hw6.size (own_lo hO6 (Nat.le_of_lt hBC))
                  have C7 := C6.kept K7 (fun h => by have h : w.heap.size = gl := Option.some.inj h; omega)
                  have N7 := N6.out.kept K7 (fun x hx e => by have hx : g = x := Option.some.inj hx; have e : x = gl := Option.some.inj e; exact hg4 (hx.trans e))
                  have hg7 : g ≠ g3 := by
                    rcases hat with h | h
                    · have h : gl = g3 := Option.some.inj h; omega
                    · simp at h; omega
                  replace R7 := Lib.hid R7; replace N7 := Lib.hid N7
                  go_roundw
                  case rel => exact ⟨g3, nl + 1, cap3, j + 1, fs.set q true, l ++ [(q : Int)], rfl, by go_num, by omega, by omega, hw7, C7, R7, hDn, (by show (l ++ [(q : Int)])[k]? = _; rw [List.getElem?_append_left (by rw [hll.out]; exact hknl)]; exact hx.out), N7, fun x hx => by (have hx : g = x := by (injection hx with hx; injection hx with hx)); subst hx; exact ⟨hg3, hg7⟩, fun t y ht hy => by
                    by_cases e : q = y
                    · subst e; exact List.getElem?_set_self (by rw [← R6.out.lf, List.length_set] at hqn; exact hqn)
                    · rw [List.getElem?_set_ne e]
                      rcases Nat.lt_or_eq_of_le (Nat.le_of_lt_succ ht) with h | rfl
                      · exact hall.out t y h hy
                      · rw [hq.out] at hy; exact absurd (Option.some.inj hy) e⟩
                  case measure => simp [intOf]; omega
                · replace hb := Lib.hid hb; replace hq := Lib.hid hq; replace hqs := Lib.hid hqs; replace hqm := Lib.hid hqm
                  go_wp2_with fail
                  go_roundw
                  case rel => exact ⟨gl, nl, cl, j + 1, fs, l, rfl, by go_num, by omega, hknl, hw, C, hR, hD, hx, hN, hNR, fun t y ht hy => by
                    rcases Nat.lt_or_eq_of_le (Nat.le_of_lt_succ ht) with h | rfl
                    · exact hall.out t y h hy
                    · rw [hq.out] at hy; obtain rfl := Option.some.inj hy; exact hb.out⟩
                  case measure => simp [intOf]; omega
              · obtain rfl : j = nn := by omega
                have hDn := hD.out.next hx.out ho.out (fun y hy => by
                  obtain ⟨t, ht, e⟩ := List.getElem_of_mem hy
                  exact hall.out t y (by rw [hnn.out, ← hns.out, List.length_map]; exact ht) (by rw [List.getElem?_eq_getElem ht, e]))
                replace hDn := Lib.hid hDn
                go_wp2_with fail
                go_roundw
                case rel => exact ⟨gl, nl, cl, k + 1, fs, l, rfl, by go_num, by omega, hw, C, hR, hDn⟩
                case measure => simp [intOf]; omega
      · obtain rfl : k = nl := by omega
        obtain ⟨hall, hiff⟩ := hD.out.done hR.out.ll.symm
        have hres : Rr = rcList (nxP is) n := hgood.out fun i hi => (hall i hi).2
        have hlen := rcList_len (nxP is)
        have hsuc := rcList_succ (nxP is)
        have hzero := rcList_zero (nxP is)
        generalize rcList (nxP is) = rl at *
        replace hres := Lib.hid hres; replace hiff := Lib.hid hiff; replace hlen := Lib.hid hlen; replace hsuc := Lib.hid hsuc; replace hzero := Lib.hid hzero
        clear hall hD
        have hzr := hw.size
        go_upto_region 20 with fail
        obtain ⟨w5, hW5⟩ : ∃ W, W = wr.alloc (.cells #[] 3) := ⟨_, rfl⟩
        rw [← hW5]
        have hb5 : Below wr.heap.size wr w5 := by rw [hW5]; go_grown
        have hbl := hR.out.bl
        have R5 : R2 B w5 B n n wr.heap.size 0 0 fs (rl 0) := by
          rw [hzero.out]
          exact ⟨hR.out.fl.below hb5, ⟨own_empty_at (by rw [hW5]; exact heap_alloc_new' _ _ _ rfl) (by omega), fun x hx => by cases hx⟩, hR.out.lf, rfl, by omega⟩
        have hw5 := hw.trans (hb5.mono hw.size)
        replace R5 := Lib.hid R5
        obtain ⟨g0, hg0⟩ : ∃ x, x = wr.heap.size := ⟨_, rfl⟩
        rw [← hg0] at R5 ⊢
        replace hg0 := Lib.hid hg0
        clear hW5 hb5 hR hw C hbl hzr
        go_wp2_with fail
        go_loopw [10, 62] (fun v i wx => ∃ (go no co j : Nat), v = .slice (some ⟨go, 0, none⟩) no co ∧ i = .int .i64 j ∧ j ≤ n ∧ Below w.heap.size w wx ∧ Hid (R2 B wx B n n go no co fs (rl j))) (fun _ i _ => n - (intOf i).toNat)
        case atStart => exact ⟨g0, 0, 0, 0, rfl, rfl, by omega, hw5, R5⟩
        case round =>
          clear hw5 R5
          obtain ⟨go, no, co, j, rfl, rfl, hj, hw, hR⟩ := hrel
          by_cases hjn : j < n
          · obtain ⟨b, hb⟩ : ∃ b, fs[j]? = some b := ⟨_, List.getElem?_eq_getElem (by rw [hR.out.lf]; exact hjn)⟩
            obtain ⟨m_0, m_f⟩ := hR.out.fl.at1 flatBool hb rfl
            have hif := hiff.out j hjn
            obtain ⟨hs1, hs2⟩ := hsuc.out j
            cases b
            · have hs := hs2 fun h => by have := hif.2 h; rw [hb] at this; cases this
              have R6 := hR
              rw [← hs] at R6
              replace hb := Lib.hid hb; replace hs := Lib.hid hs
              clear hs1 hs2 hif
              go_wp2_with fail
              go_roundw
              case rel => exact ⟨go, no, co, j + 1, rfl, by go_num, by omega, hw, R6⟩
              case measure => simp [intOf]; omega
            · have hs := hs1 (hif.1 hb)
              have hll := hR.out.ll
              have hO := hR.out.ls.1
              rw [hll] at hO
              have hbl := hR.out.bl
              have hno : no ≤ 3000 := by have := hlen.out j; rw [hll] at this; omega
              have hj64 : I64 ((j : Nat) : Int) := by constructor <;> omega
              have hwf := hR.out.ls.2
              generalize rl j = zs at *
              replace hb := Lib.hid hb; replace hs := Lib.hid hs; replace hll := Lib.hid hll; replace hj64 := Lib.hid hj64; replace hwf := Lib.hid hwf
              clear hs1 hs2 hif
              have hzr := hw.size
              go_wp2_with (at_builtin; refine wpList_append_lies _ rfl _ _ _ rfl (B) 3 iJ _ 1 8 Tryz.underlying60 IJ.out IJ0.out IJ1.out IJ2.out rfl (by omega) (.slice (some ⟨go, 0, none⟩) no co) (no) (rowsOf intRow zs) rfl (own_below hO (by go_grown)) ⟨wr.heap.size, 0, none⟩ 1 1 [.int .i64 (j : Int)] rfl rfl (World.news_of_block (cs := #[.int .i64 (j : Int)]) (t := 3) (fr := (0, 0)) (heap_alloc_new' _ _ _ (by simp))) (by intro u hu; simp at hu; (first | (subst hu; rfl) | (rcases hu with rfl | rfl | rfl | rfl <;> rfl) | (rcases hu with rfl | rfl | rfl | rfl | rfl | rfl | rfl | rfl | rfl <;> rfl))) (by omega) (by unfold maxLen; omega) (by omega) (by simp; omega) _ rfl ?_; intro g3 cap3 w7 hown hgrow hat hlt2)
              have R7 := hR.out.ls_new (w' := w7) (w1 := wr.alloc (.cells #[.int .i64 (j : Int)] 3)) (by go_grown) hgrow (by
                rcases hat with h | h
                · injection h with h; exact .inl h.symm
                · exact .inr (by rw [h]; simp)) (ints_snoc hll.out hown hwf.out hj64.out) (by rw [List.length_append, hll.out]; rfl)
              have hw7 : Below w.heap.size w w7 := below_grown2 (wr := wr) (w := w) (base := w.heap.size) hgrow (by go_grown) hw hw.size (own_lo hO (Nat.le_of_lt hBC))
              rw [← hs.out] at R7
              replace R7 := Lib.hid R7
              go_roundw
              case rel => exact ⟨g3, no + 1, cap3, j + 1, rfl, by go_num, by omega, hw7, R7⟩
              case measure => simp [intOf]; omega
          · obtain rfl : j = n := by omega
            have hS := (hR.out.ls.mono (Nat.le_of_lt hBC)).sl flatInt
            rw [← hres.out] at hS
            replace hS := Lib.hid hS
            go_wp2_with fail
            go_returns
            exact ⟨_, rfl, hS.out, hw⟩

end Go.Proofs.YtfobkbjabenkkaaGreat
