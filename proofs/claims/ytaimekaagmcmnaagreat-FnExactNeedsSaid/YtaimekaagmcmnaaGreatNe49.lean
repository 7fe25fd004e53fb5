/- Parts of the proof, merged: NeedS, FoNode, FoTyItem. -/
import Derived.Test.YtaimekaagmcmnaaGreatNe48
namespace Go.Proofs.YtaimekaagmcmnaaGreat
open Go.RowKit
set_option linter.unusedVariables false
set_option linter.unusedSimpArgs false
attribute [local go_sem] Ext.cell

theorem free_snoc (x : ExT) (l : List ByteArray) (n : ByteArray) : (l ++ [n]).filter (fun n => freeP n x) = l.filter (fun n => freeP n x) ++ (if freeP n x = true then [n] else []) := by
  rw [List.filter_append]
  congr 1
  rw [List.filter_cons]
  rfl

set_option maxRecDepth 100000 in
set_option maxHeartbeats 8000000 in
theorem specNeeds_no (p : GProgram) (hs : ProgSm p) (hk : progOk p = false) (r : List Value) (lo : Nat) (w : World) (hr : GProgram.R lo w r p) :
    Calls Tryz.prog 5 #[.agg r.toArray] w (StrPost [] w) := by
  have cP := fun W (hW : Below w.heap.size w W) => specProgramOk_c p hs r lo W (GProgram.good.below hr hW)
  rw [hk] at cP
  obtain ⟨tv, nv, rfl, -, hT, hN⟩ := hr
  obtain ⟨na, nc, rfl⟩ := hN.form
  obtain ⟨ta, tc, rfl⟩ := hT.form
  generalize p.types.length = tn at *
  generalize p.nodes.length = n at *
  clear hT hN
  replace cP : ∀ W, Below w.heap.size w W → Calls Tryz.prog 15 #[.agg #[.slice ta tn tc, .slice na n nc]] W fun e w' => e = .returned (.bool false) ∧ Below W.heap.size W w' := cP
  have hpost : ∀ W v, OwnF 9 1 strRow StrOk w.heap.size W v [] → Below w.heap.size w W → StrPost [] w (.returned v) W := fun W v h1 h => ⟨_, rfl, h1, h⟩
  generalize StrPost [] w = Q at *
  replace cP := Lib.hid cP; replace hpost := Lib.hid hpost
  show Calls Tryz.prog 5 #[.agg #[.slice ta tn tc, .slice na n nc]] w _
  go_enter Tryz.func5, Tryz.ntmps5
  go_upto_region 1 with fail
  have D : RowAt (w.alloc (.cells #[.slice ta tn tc, .slice na n nc] 32)) (w.heap.size) 0 [.slice ta tn tc, .slice na n nc] := RowAt.box w #[.slice ta tn tc, .slice na n nc] 32
  have hw : Below w.heap.size w (w.alloc (.cells #[.slice ta tn tc, .slice na n nc] 32)) := by go_grown
  generalize (w.alloc (.cells #[.slice ta tn tc, .slice na n nc] 32)) = w0 at *
  obtain ⟨d_0, d_1⟩ := D.box2; have hsD := World.block_lt_of_cell? _ _ d_0; dsimp only at hsD
  go_upto_region 2 with fail
  obtain ⟨w1, hW1⟩ : ∃ W, W = w0.alloc (.cells #[] 9) := ⟨_, rfl⟩
  rw [← hW1]
  have hb1 : Below w0.heap.size w0 w1 := by rw [hW1]; go_grown
  have O1 : OwnF 9 1 strRow StrOk w.heap.size w1 (.slice (some ⟨w0.heap.size, 0, none⟩) 0 0) [] := ⟨own_empty_at (by rw [hW1]; exact heap_alloc_new' _ _ _ (by simp)) hw.size, fun x h => by cases h⟩
  have D1 := D.below hb1
  have hw1 := hw.trans (hb1.mono hw.size)
  clear hW1 d_0 d_1 hsD D hb1 hw
  obtain ⟨d1_0, d1_1⟩ := D1.box2; have hsD1 := World.block_lt_of_cell? _ _ d1_0; dsimp only at hsD1
  replace O1 := Lib.hid O1
  go_wp2_with (go_at_call 15; (with_reducible refine (cP.out _ hw1).mono ?_); rintro e w2 ⟨rfl, hb2⟩)
  exact hpost.out _ _ (O1.out.below hb2) (hw1.trans (hb2.mono hw1.size))

set_option maxRecDepth 100000 in
set_option maxHeartbeats 16000000 in
theorem specNeeds_yes (p : GProgram) (x : ExT) (hx : TreeOf p x) (r : List Value) (lo : Nat) (w : World) (hr : GProgram.R lo w r p) :
    Calls Tryz.prog 5 #[.agg r.toArray] w (StrPost (needL (freeL x)) w) := by
  have cP := fun W (hW : Below w.heap.size w W) => specProgramOk_c p hx.sm r lo W (GProgram.good.below hr hW)
  rw [hx.ok] at cP
  have cF := fun (m : ByteArray) W (hW : Below w.heap.size w W) => l09Free_c p m (szE x) x 0 (Nat.le_refl _) hx.laid hx.tree r lo W (GProgram.good.below hr hW)
  obtain ⟨tv, nv, rfl, -, hT, hN⟩ := hr
  obtain ⟨na, nc, rfl⟩ := hN.form
  obtain ⟨ta, tc, rfl⟩ := hT.form
  generalize p.types.length = tn at *
  generalize p.nodes.length = n at *
  clear hT hN
  replace cP : ∀ W, Below w.heap.size w W → Calls Tryz.prog 15 #[.agg #[.slice ta tn tc, .slice na n nc]] W fun e w' => e = .returned (.bool true) ∧ Below W.heap.size W w' := cP
  replace cF : ∀ (m : ByteArray) W, Below w.heap.size w W → Calls Tryz.prog 17 #[.agg #[.slice ta tn tc, .slice na n nc], .int .i64 0, .string m] W fun e w' => e = .returned (.bool (freeP m x)) ∧ Below W.heap.size W w' := cF
  have cN := fun v l W hv => specNeeds_y (freeL x) (by have := freeL_len x; omega) v l W hv
  have hpost : ∀ W W' v, OwnF 9 1 strRow StrOk W.heap.size W' v (needL (freeL x)) → Below w.heap.size w W → Below W.heap.size W W' → StrPost (needL (freeL x)) w (.returned v) W' := fun W W' v h1 h2 h3 => ⟨_, rfl, h1.mono h2.size, h2.trans (h3.mono h2.size)⟩
  have hfl : freeL x = libNames.filter fun n => freeP n x := rfl
  generalize StrPost (needL (freeL x)) w = Q at *
  have cL := fun W => spec_LibNames_c W
  obtain ⟨iJ, hi0, hz0, hz1, hz2⟩ := info_parts info_StrLn; have IJ := Lib.hid hi0; have IJ0 := Lib.hid hz0; have IJ1 := Lib.hid hz1; have IJ2 := Lib.hid hz2; clear hi0 hz0 hz1 hz2
  replace cP := Lib.hid cP; replace cN := Lib.hid cN; replace hpost := Lib.hid hpost; replace cL := Lib.hid cL; replace cF := Lib.hid cF; replace hfl := Lib.hid hfl
  clear hx
  show Calls Tryz.prog 5 #[.agg #[.slice ta tn tc, .slice na n nc]] w _
  go_enter Tryz.func5, Tryz.ntmps5
  go_upto_region 1 with fail
  have D : RowAt (w.alloc (.cells #[.slice ta tn tc, .slice na n nc] 32)) (w.heap.size) 0 [.slice ta tn tc, .slice na n nc] := RowAt.box w #[.slice ta tn tc, .slice na n nc] 32
  have hw : Below w.heap.size w (w.alloc (.cells #[.slice ta tn tc, .slice na n nc] 32)) := by go_grown
  generalize (w.alloc (.cells #[.slice ta tn tc, .slice na n nc] 32)) = w0 at *
  obtain ⟨d_0, d_1⟩ := D.box2; have hsD := World.block_lt_of_cell? _ _ d_0; dsimp only at hsD
  have hz0 : w.heap.size + 1 ≤ w0.heap.size := hsD
  go_upto_region 2 with fail
  obtain ⟨w1, hW1⟩ : ∃ W, W = w0.alloc (.cells #[] 9) := ⟨_, rfl⟩
  rw [← hW1]
  have hb1 : Below w0.heap.size w0 w1 := by rw [hW1]; go_grown
  have hz1 : w1.heap.size = w0.heap.size + 1 := by rw [hW1]; simp
  obtain ⟨ob, hob⟩ : ∃ b, b = w0.heap.size := ⟨_, rfl⟩
  rw [← hob] at hz1 hz0 hb1
  have O1 : OwnF 9 1 strRow StrOk (w.heap.size + 1) w1 (.slice (some ⟨ob, 0, none⟩) 0 0) [] := ⟨own_empty_at (by rw [hW1, hob]; exact heap_alloc_new' _ _ _ (by simp)) hz0, fun x h => by cases h⟩
  rw [← hob]
  have D1 := D.below (hob ▸ hb1)
  have hw1 := hw.trans (hb1.mono (by omega))
  clear hW1 d_0 d_1 hsD D hb1 hw
  obtain ⟨d1_0, d1_1⟩ := D1.box2; have hsD1 := World.block_lt_of_cell? _ _ d1_0; dsimp only at hsD1
  replace O1 := Lib.hid O1; replace hob := Lib.hid hob
  go_upto_region 4 with (go_at_call 15; (with_reducible refine (cP.out _ hw1).mono ?_); rintro e w2 ⟨rfl, hb2⟩)
  have hw2 := hw1.trans (hb2.mono hw1.size)
  have D2 := D1.below hb2
  have O2 := O1.out.below hb2
  have hz2 := hb2.size
  clear d1_0 d1_1 hsD1 D1 hb2 hw1 O1 cP
  go_upto_region 5 with (go_at_call 16; (with_reducible refine (cL.out _).mono ?_); rintro e w5 ⟨lv, rfl, OL, hb5⟩; obtain ⟨g5, lcap, rfl, y1, y2, y3, y4, LR, y6⟩ := own_cells OL (by decide))
  have hz5 := hb5.size
  have hgo : g5 ≠ ob := by omega
  have O5 := O2.below hb5
  have D5 := D2.below hb5
  have hw5 := hw2.trans (hb5.mono hw2.size)
  have hov : ∀ q, (Value.slice (some ⟨ob, 0, none⟩) 0 0).ownBlock = some q → q = ob ∨ w5.heap.size ≤ q := fun q hq => .inl (by simpa [Value.ownBlock] using hq.symm)
  generalize (Value.slice (some ⟨ob, 0, none⟩) 0 0) = ov at *
  replace O5 := Lib.hid O5; replace hov := Lib.hid hov
  clear OL y6 hb5 O2 D2 hw2 cL
  go_loopw [3, 13] (fun ov ii wq => ∃ k : Nat, k ≤ 13 ∧ ii = .int .i64 k ∧ Hid (OwnF 9 1 strRow StrOk (w.heap.size + 1) wq ov ((libNames.take k).filter fun n => freeP n x)) ∧ Hid (∀ q, ov.ownBlock = some q → q = ob ∨ w5.heap.size ≤ q) ∧ Hid (Kept (· = ob) w5 wq) ∧ Hid (Below w.heap.size w wq) ∧ w5.heap.size ≤ wq.heap.size) (fun _ ii _ => 13 - (intOf ii).toNat)
  case atStart => exact ⟨0, by omega, rfl, by simpa using O5, hov, Lib.hid (Kept.refl _ _), Lib.hid hw5, Nat.le_refl _⟩
  case round =>
    clear O5 hov hw5
    obtain ⟨k, hk, rfl, OO, hov, K, hwA, hsz5⟩ := hrel
    have hszA := hwA.out.size
    have D := D5.kept K.out (by omega)
    obtain ⟨d_0, d_1⟩ := D.box2; have hsD := World.block_lt_of_cell? _ _ d_0; dsimp only at hsD
    by_cases hlt : k < 13
    · obtain ⟨n, hn1, hn2, hno2⟩ := libNames_get hlt
      have htk : libNames.take (k + 1) = libNames.take k ++ [n] := by rw [List.take_add_one, hn1]; rfl
      have hpn := free_snoc x (libNames.take k) n
      rw [← htk] at hpn
      have e_0 : wr.cell? ⟨g5, 0 + k, none⟩ = some (.string n) := (LR.kept K.out hgo) k _ hn2
      rw [Nat.zero_add] at e_0
      have hbb1 := World.block_lt_of_cell? _ _ e_0; dsimp only at hbb1
      have cIn := fun W (hW : Below wr.heap.size wr W) => cF.out n W (hwA.out.trans (hW.mono hszA))
      have hkb : ((libNames.take k).filter fun n => freeP n x).length ≤ 13 := Nat.le_trans (List.length_filter_le _ _) (by rw [List.length_take]; omega)
      obtain ⟨q, hq⟩ : ∃ q, freeP n x = q := ⟨_, rfl⟩
      rw [hq] at cIn hpn
      generalize hl : ((libNames.take k).filter fun n => freeP n x) = l at *
      generalize hl2 : ((libNames.take (k + 1)).filter fun n => freeP n x) = l2 at *
      obtain ⟨xa, xc, rfl⟩ := OO.out.form
      obtain ⟨vn, hvn⟩ : ∃ y, y = l.length := ⟨_, rfl⟩
      have hown2 := OO.out.1
      have hOw := Lib.hid OO.out.2
      rw [← hvn] at hown2 hkb hov ⊢
      replace hl := Lib.hid hl; replace hl2 := Lib.hid hl2; replace hpn := Lib.hid hpn; replace htk := Lib.hid htk; replace hvn := Lib.hid hvn; replace hn1 := Lib.hid hn1; replace hn2 := Lib.hid hn2; replace cIn := Lib.hid cIn; replace hown2 := Lib.hid hown2; replace hq := Lib.hid hq
      cases q
      · go_wp2_with (go_at_call 17; (with_reducible refine (cIn.out _ (Below.refl _ _)).mono ?_); rintro e w1 ⟨rfl, hb⟩)
        go_roundw
        case rel =>
          refine ⟨k + 1, by omega, by go_num, Lib.hid ?_, hov, Lib.hid (K.out.trans hsz5 (Kept.below hb)), Lib.hid (hwA.out.trans (hb.mono hszA)), Nat.le_trans hsz5 hb.size⟩
          rw [hl2.out, hpn.out, if_neg (by simp), List.append_nil, hvn.out]
          exact OO.out.below hb
        case measure => simp [intOf]; omega
      · go_upto_region 8 with (go_at_call 17; (with_reducible refine (cIn.out _ (Below.refl _ _)).mono ?_); rintro e w1 ⟨rfl, hb⟩)
        have hwB := hwA.out.trans (hb.mono hszA)
        have hown6 := own_below hown2.out hb
        have hzB := hwB.size
        have hzb := hb.size
        have K1 := Lib.hid (K.out.trans hsz5 (Kept.below hb))
        replace hown6 := Lib.hid hown6
        clear hown2
        go_wp2_with (at_builtin; refine wpList_append_lies _ rfl _ _ _ rfl (w.heap.size + 1) 9 iJ _ 1 16 Tryz.underlying27 IJ.out IJ0.out IJ1.out IJ2.out rfl (by omega) (.slice xa vn xc) (vn) (rowsOf strRow l) rfl (own_below hown6.out (by go_grown)) ⟨w1.heap.size, 0, none⟩ 1 1 [.string n] rfl rfl (World.news_of_block (cs := #[.string n]) (t := 9) (fr := (0, 0)) (heap_alloc_new' _ _ _ (by simp))) (by intro u hu; simp at hu; (first | (subst hu; rfl) | (rcases hu with rfl | rfl <;> rfl) | (rcases hu with rfl | rfl | rfl <;> rfl) | (rcases hu with rfl | rfl | rfl | rfl <;> rfl) | (rcases hu with rfl | rfl | rfl | rfl | rfl | rfl <;> rfl) | (rcases hu with rfl | rfl | rfl | rfl | rfl | rfl | rfl <;> rfl) | (rcases hu with rfl | rfl | rfl | rfl | rfl | rfl | rfl | rfl | rfl <;> rfl))) (by omega) (by unfold maxLen; omega) (by omega) (by simp; omega) _ rfl ?_; intro g2 cap2 w6 hownN hgrow hat hlt2)
        have hB6 : Below w.heap.size w w6 := below_grown2 (wr := w1) (base := w.heap.size) hgrow (by go_grown) hwB hzB (own_lo hown6.out (Nat.le_succ _))
        have k6 := kept_of hgrow (w := w1) (by go_grown)
        have hz6 : w1.heap.size + 1 ≤ w6.heap.size := by have := hgrow.size; simpa using this
        go_roundw
        case rel =>
          refine ⟨k + 1, by omega, by go_num, Lib.hid ⟨?_, fun y hy => ?_⟩, Lib.hid (fun q' hq' => ?_), Lib.hid (fun q' h1 h2 => ?_), Lib.hid hB6, by omega⟩
          · rw [hl2.out, hpn.out, if_pos trivial, List.length_append, ← hvn.out, rowsOf_append, rowsOf_one]
            exact hownN
          · rw [hl2.out, hpn.out, if_pos trivial] at hy
            rcases List.mem_append.1 hy with h | h
            · exact hOw.out y h
            · simp only [List.mem_singleton] at h; rw [h]; exact hno2
          · obtain rfl : g2 = q' := by simpa [Value.ownBlock] using hq'
            rcases hat with h | h
            · exact hov.out g2 h
            · exact .inr (by simp at h; omega)
          · refine (k6 q' (by omega) (fun e => ?_)).trans (K1.out q' h1 h2)
            rcases hov.out q' e.symm with h | h
            · exact h2 h
            · omega
        case measure => simp [intOf]; omega
    · obtain rfl : k = 13 := by omega
      have O9 := OO.out
      rw [show libNames.take 13 = libNames from rfl, ← hfl.out] at O9
      have cN2 := cN.out _ _ _ (O9.sl flatStr)
      obtain ⟨xa, xc, rfl⟩ := O9.form
      generalize (freeL x).length = fl at *
      replace cN2 := Lib.hid cN2; replace O9 := Lib.hid O9
      clear OO
      go_wp2_with (go_at_call 18; (with_reducible refine (cN2.out).mono ?_); rintro e w7 ⟨rv, rfl, OR, hb7⟩)
      exact hpost.out _ _ _ OR hwA.out hb7
def cntNode (x : GNode) : Nat := 4 + cntL cntInt x.kids + cntL cntPat x.pats
def mkNode (k : Nat) (x : GNode) : GNode := ⟨(k : Int), ((k + 1 : Nat) : Int), ((k + 2 : Nat) : Int), markT (k + 3), markL mkInt cntInt (k + 4) x.kids, markL mkPat cntPat (k + 4 + cntL cntInt x.kids) x.pats⟩
def LenOkNode (xs : List GNode) : Prop := xs.length ≤ 4611686018427387904 ∧ ∀ x ∈ xs, x.kids.length ≤ 4611686018427387904 ∧ LenOkPat x.pats

set_option maxRecDepth 100000 in
set_option maxHeartbeats 4000000 in
theorem markNodeS_c (v : Value) (bs : List Nat) (k lo : Nat) (z : Int) (hz : z = (k : Int)) (xs : List GNode) (w : World) (S : SlO 74 6 GNode.O bs w v xs) (hnd : bs.Nodup) (hlo : ∀ b ∈ bs, lo ≤ b) (hlw : lo ≤ w.heap.size) (hkn : k + cntL cntNode xs ≤ 4611686018427387904) (hlN : LenOkNode xs) :
    Calls Tryz.prog 30 #[v, .int .i64 z] w fun e w' => e = .returned (.int .i64 ((k + cntL cntNode xs : Nat) : Int)) ∧ SlO 74 6 GNode.O bs w' v (markL mkNode cntNode k xs) ∧ Kept (· ∈ bs) w w' ∧ Below lo w w' := by
  subst hz
  obtain ⟨a, c, rfl⟩ := S.form
  obtain ⟨n, hn⟩ : ∃ n, n = xs.length := ⟨_, rfl⟩
  have hln : n ≤ 4611686018427387904 := by rw [hn]; unfold LenOkNode at hlN; omega
  rw [← hn] at S ⊢
  replace hn := Lib.hid hn; replace S := Lib.hid S; replace hnd := Lib.hid hnd; replace hlo := Lib.hid hlo; replace hkn := Lib.hid hkn; replace hlN := Lib.hid hlN
  go_enter Tryz.func30, Tryz.ntmps30
  go_wp2_with fail
  go_loopw [1, 5] (fun kk i wr => ∃ m j : Nat, j ≤ n ∧ Hid (m = k + cntL cntNode (xs.take j)) ∧ kk = .int .i64 m ∧ i = .int .i64 j ∧ Hid (SlO 74 6 GNode.O bs wr (.slice a n c) (markN mkNode cntNode k xs j)) ∧ Below lo w wr ∧ Hid (Kept (· ∈ bs) w wr)) (fun _ i _ => n - (intOf i).toNat)
  case atStart => exact ⟨k, 0, by omega, by show _ = _; simp [cntL], rfl, rfl, by show SlO _ _ _ _ _ _ _; rw [markN_zero]; exact S.out, Below.refl _ _, Kept.refl _ _⟩
  case round =>
    clear S
    obtain ⟨m, j, hj, hm, rfl, rfl, S, hw0, hK0⟩ := hrel
    have hz0 := hw0.size
    by_cases hlt : j < n
    · obtain ⟨x, hx⟩ : ∃ x, xs[j]? = some x := ⟨_, List.getElem?_eq_getElem (by have := hn.out; omega)⟩
      have hks := cntL_take (cnt := cntNode) hx
      have hle := cntL_le cntNode xs (j + 1)
      have hmx : m + cntNode x ≤ 4611686018427387904 := by have := hkn.out; have := hm.out; omega
      have hS := S.out
      clear S
      rcases hS with ⟨he, _⟩ | ⟨ps, ⟨rows, hown, hrows⟩, hbs⟩
      · exfalso
        have := markN_length (mk := mkNode) (cnt := cntNode) k xs j
        rw [he] at this
        have := hn.out
        simp at *
        omega
      rw [markN_length, ← hn.out] at hown
      obtain ⟨g, cap, hv, -⟩ := own_cells hown (by omega)
      obtain ⟨rfl, rfl⟩ : a = some ⟨g, 0, none⟩ ∧ c = cap := by injection hv with e1 e2 e3; exact ⟨e1, e3⟩
      clear hv
      obtain ⟨p, r, hp, hr, hrl, ho⟩ := hrows.at (markN_get hx)
      have M0 := MidO.start hown hrows.wide (by rw [hrows.lr, markN_length, ← hn.out]) hr
      have hnd2 := hnd.out
      rw [hbs, fpO_slice, List.nodup_cons] at hnd2
      have hgp : g ∉ p := fun h => hnd2.1 (List.mem_flatten.2 ⟨p, List.mem_of_getElem? hp, h⟩)
      have hpn : p.Nodup := (List.pairwise_flatten.1 hnd2.2).1 p (List.mem_of_getElem? hp)
      have hpb : ∀ b ∈ p, b ∈ bs := fun b hb => by rw [hbs, fpO_slice]; exact List.mem_cons_of_mem _ (List.mem_flatten.2 ⟨p, List.mem_of_getElem? hp, hb⟩)
      have hgb : g ∈ bs := by rw [hbs, fpO_slice]; exact List.mem_cons_self
      have hlog : lo ≤ g := hlo.out g hgb
      have hgw := M0.lt
      obtain ⟨u0, p0, u1, p1, rfl, hpp, hwf, s0, s1⟩ := ho
      have hpe := hwf
      have hp0 : ∀ b ∈ p0, b ∈ p := fun b hb => by rw [hpp]; exact List.mem_append_left _ hb
      have hp1 : ∀ b ∈ p1, b ∈ p := fun b hb => by rw [hpp]; exact List.mem_append_right _ hb
      have hpd : p0.Nodup ∧ p1.Nodup ∧ ∀ b ∈ p0, b ∉ p1 := by rw [hpp] at hpn; have h := List.nodup_append.1 hpn; exact ⟨h.1, h.2.1, fun b h1 h2 => h.2.2 b h1 b h2 rfl⟩
      obtain ⟨hl0, hl1⟩ := hlN.out.2 x (List.mem_of_getElem? hx)
      replace s0 := Lib.hid s0; replace s1 := Lib.hid s1; replace hl1 := Lib.hid hl1; replace hpp := Lib.hid hpp; replace hp0 := Lib.hid hp0; replace hp1 := Lib.hid hp1; replace hpd := Lib.hid hpd
      unfold cntNode at hmx
      obtain ⟨e0, f0⟩ := M0.cell (off := j * 6) (t := 0) (by omega) rfl
      obtain ⟨e1, f1⟩ := M0.cell (off := j * 6 + 1) (t := 1) (by omega) rfl
      obtain ⟨e2, f2⟩ := M0.cell (off := j * 6 + 2) (t := 2) (by omega) rfl
      obtain ⟨e3, f3⟩ := M0.cell (off := j * 6 + 3) (t := 3) (by omega) rfl
      obtain ⟨e4, f4⟩ := M0.cell (off := j * 6 + 4) (t := 4) (by omega) rfl
      obtain ⟨e5, f5⟩ := M0.cell (off := j * 6 + 5) (t := 5) (by omega) rfl
      clear hown
      replace hrows := Lib.hid hrows; replace hbs := Lib.hid hbs; replace hp := Lib.hid hp; replace hx := Lib.hid hx; replace hks := Lib.hid hks; replace hle := Lib.hid hle; replace M0 := Lib.hid M0; replace hr := Lib.hid hr; replace hrl := Lib.hid hrl; replace hwf := Lib.hid hwf; replace hnd2 := Lib.hid hnd2; replace hpb := Lib.hid hpb; replace hgp := Lib.hid hgp; replace hgb := Lib.hid hgb; replace hpe := Lib.hid hpe; replace hpn := Lib.hid hpn
      go_wp2_with fail
      refine (markText_z (m + 3) _ (by omega) (by omega) _).mono ?_
      rintro e w2 ⟨rfl, hb2⟩
      have M1 := MidO.below (((M0.out.set (off := j * 6) (t := 0) (by omega) (by omega) (.int .i64 (m : Int))).set (off := j * 6 + 1) (t := 1) (by omega) (by omega) (.int .i64 ((m : Int) + 1))).set (off := j * 6 + 2) (t := 2) (by omega) (by omega) (.int .i64 ((m : Int) + 1 + 1))) hb2
      have K1 := ((((Kept.refl (fun b => b = g) wr).set (p := ⟨g, j * 6, none⟩) rfl (.int .i64 (m : Int))).set (p := ⟨g, j * 6 + 1, none⟩) rfl (.int .i64 ((m : Int) + 1))).set (p := ⟨g, j * 6 + 2, none⟩) rfl (.int .i64 ((m : Int) + 1 + 1))).trans (by simp [World.setCell]) (Kept.below hb2)
      have B1 := (((hw0.setCell (p := ⟨g, j * 6, none⟩) (by dsimp only; omega) (.int .i64 (m : Int))).setCell (p := ⟨g, j * 6 + 1, none⟩) (by dsimp only; omega) (.int .i64 ((m : Int) + 1))).setCell (p := ⟨g, j * 6 + 2, none⟩) (by dsimp only; omega) (.int .i64 ((m : Int) + 1 + 1))).trans (hb2.mono (by simp [World.setCell]; omega))
      have z1 := B1.size
      have gw1 := M1.lt
      obtain ⟨e3', f3'⟩ := M1.cell (off := j * 6 + 3) (t := 3) (by omega) rfl
      obtain ⟨e4', f4'⟩ := M1.cell (off := j * 6 + 4) (t := 4) (by omega) rfl
      have zz : wr.heap.size ≤ w2.heap.size := by have := hb2.size; simpa [World.setCell] using this
      clear hb2 e0 e1 e2 e3 e4 e5 f0 f1 f2 f3 f4 f5
      have M2 := M1.set (off := j * 6 + 3) (t := 3) (by omega) (by omega) (.string (markT (m + 3)))
      have K2 := K1.set (p := ⟨g, j * 6 + 3, none⟩) rfl (.string (markT (m + 3)))
      have B2 := B1.setCell (p := ⟨g, j * 6 + 3, none⟩) (by dsimp only; omega) (.string (markT (m + 3)))
      have z2 : (w2.setCell ⟨g, j * 6 + 3, none⟩ (.string (markT (m + 3)))).heap.size = w2.heap.size := by simp [World.setCell]
      have z2' : lo ≤ (w2.setCell ⟨g, j * 6 + 3, none⟩ (.string (markT (m + 3)))).heap.size := by rw [z2]; omega
      replace M2 := Lib.hid M2; replace K2 := Lib.hid K2; replace B2 := Lib.hid B2; replace M1 := Lib.hid M1; replace K1 := Lib.hid K1; replace z2 := Lib.hid z2
      go_wp2_with fail
      refine (markIntS_c u0 p0 (m + 4) lo _ (by omega) x.kids _ (s0.out.kept (flatO_ok flatInt) K2.out (fun b hb h => hgp.out (h ▸ hp0.out b hb))) hpd.out.1 (fun b hb => hlo.out b (hpb.out b (hp0.out b hb))) z2' (by omega) hl0).mono ?_
      rintro e w3 ⟨rfl, t0, hk3, hb3⟩
      have hz3 := hb3.size
      rw [z2.out] at hz3
      have M3 := M2.out.kept hk3 (fun h => hgp.out (hp0.out _ h))
      have s1' := (s1.out.kept GPat.ok K2.out (fun b hb h => hgp.out (h ▸ hp1.out b hb))).kept GPat.ok hk3 (fun b hb h => hpd.out.2.2 b h hb)
      obtain ⟨e5', f5'⟩ := M3.cell (off := j * 6 + 5) (t := 5) (by omega) rfl
      have gw3 := M3.lt
      have K3 := (kept_imp (S' := fun b => b = g ∨ b ∈ p) K2.out fun q h => .inl h).trans (by rw [z2.out]; exact zz) (kept_imp hk3 fun q h => .inr (hp0.out q h))
      have B3 := B2.out.trans hb3
      obtain ⟨m1, hm1⟩ : ∃ y, y = m + 4 + cntL cntInt x.kids := ⟨_, rfl⟩
      rw [← hm1]
      have hm1' : m1 ≤ 4611686018427387904 := by omega
      have hm2' : m1 + cntL cntPat x.pats ≤ 4611686018427387904 := by omega
      have z3 : lo ≤ w3.heap.size := by omega
      replace hm1 := Lib.hid hm1; replace M3 := Lib.hid M3; replace s1' := Lib.hid s1'; replace K3 := Lib.hid K3; replace B3 := Lib.hid B3; replace t0 := Lib.hid t0
      clear hb3 hk3 e3' e4' f3' f4'
      go_wp2_with fail
      refine (markPatS_c u1 p1 m1 lo _ rfl x.pats _ s1'.out hpd.out.2.1 (fun b hb => hlo.out b (hpb.out b (hp1.out b hb))) z3 hm2' hl1.out).mono ?_
      rintro e w4 ⟨rfl, t1, hk4, hb4⟩
      have hz4 := hb4.size
      have MF := M3.out.kept hk4 (fun h => hgp.out (hp1.out _ h))
      have t0' := t0.out.kept (flatO_ok flatInt) hk4 (fun b hb h => hpd.out.2.2 b hb h)
      have KF := K3.out.trans (show wr.heap.size ≤ w3.heap.size by omega) (kept_imp hk4 fun q h => .inr (hp1.out q h))
      have BF := B3.out.trans hb4
      replace MF := Lib.hid MF; replace KF := Lib.hid KF; replace t0' := Lib.hid t0'; replace t1 := Lib.hid t1
      obtain ⟨m2, hm2⟩ : ∃ y, y = m1 + cntL cntPat x.pats := ⟨_, rfl⟩
      rw [← hm2]
      replace hm2 := Lib.hid hm2
      clear hb4 hk4 e5' f5'
      go_wp2_with fail
      go_roundw
      case rel => exact ⟨m2, j + 1, by omega, by show _ = _; rw [hks.out, hm2.out, hm1.out, hm.out]; unfold cntNode; omega, by go_num, by go_num, .inr ⟨ps, (GrowO.mark GNode.ok (k := k) rfl hrows.out hx.out hp.out (hbs.out ▸ hnd.out) (r := [.int .i64 (m : Int), .int .i64 ((m : Int) + 1), .int .i64 ((m : Int) + 1 + 1), .string (markT (m + 3)), u0, u1]) rfl hn.out MF.out.own (by rw [← hm.out]; exact ⟨u0, p0, u1, p1, by simp [mkNode]; omega, hpp.out, ⟨by unfold mkNode I64; dsimp only; omega, by unfold mkNode I64; dsimp only; omega, by unfold mkNode I64; dsimp only; omega, markT_ok (n := m + 3) (by omega)⟩, t0'.out, by unfold mkNode; dsimp only; rw [← hm1.out]; exact t1.out⟩) KF.out), hbs.out⟩, BF, hK0.out.trans hz0 (kept_imp KF.out fun q h => by rcases h with h | h; (subst h; exact hgb.out); exact hpb.out q h)⟩
      case measure => simp [intOf]; omega
    · obtain rfl : j = n := by omega
      have e1 := hn.out
      have h2 := S.out
      have h3 := hm.out
      rw [List.take_of_length_le (by omega)] at h3
      rw [e1, markN_all, ← e1] at h2
      replace h2 := Lib.hid h2; replace h3 := Lib.hid h3
      clear e1
      go_wp2
      go_returns
      exact ⟨by rw [← h3.out]; rfl, h2.out, hK0.out, hw0⟩

def tyRow (x : GTyItem) : List Value := [.int .i64 x.var, .string x.name, .int .i64 x.arity]
theorem flatTyItem : Flat GTyItem.R 3 tyRow GTyItem.wf := ⟨fun h => h, fun h _ _ => ⟨rfl, h⟩, fun _ => rfl, fun _ u hu => by simp [tyRow] at hu; rcases hu with rfl | rfl | rfl <;> rfl, by decide⟩
abbrev GTyItem.O : FootR GTyItem := FlatO tyRow GTyItem.wf
theorem GTyItem.ok : FootOk GTyItem.O GTyItem.R := flatO_ok flatTyItem
def cntTyItem (x : GTyItem) : Nat := 3
def mkTyItem (k : Nat) (x : GTyItem) : GTyItem := ⟨(k : Int), markT (k + 1), ((k + 2 : Nat) : Int)⟩
def LenOkTyItem (xs : List GTyItem) : Prop := xs.length ≤ 4611686018427387904

set_option maxRecDepth 100000 in
set_option maxHeartbeats 4000000 in
theorem markTyItemS_c (v : Value) (bs : List Nat) (k lo : Nat) (z : Int) (hz : z = (k : Int)) (xs : List GTyItem) (w : World) (S : SlO 106 3 GTyItem.O bs w v xs) (hnd : bs.Nodup) (hlo : ∀ b ∈ bs, lo ≤ b) (hlw : lo ≤ w.heap.size) (hkn : k + cntL cntTyItem xs ≤ 4611686018427387904) (hlN : LenOkTyItem xs) :
    Calls Tryz.prog 95 #[v, .int .i64 z] w fun e w' => e = .returned (.int .i64 ((k + cntL cntTyItem xs : Nat) : Int)) ∧ SlO 106 3 GTyItem.O bs w' v (markL mkTyItem cntTyItem k xs) ∧ Kept (· ∈ bs) w w' ∧ Below lo w w' := by
  subst hz
  obtain ⟨a, c, rfl⟩ := S.form
  obtain ⟨n, hn⟩ : ∃ n, n = xs.length := ⟨_, rfl⟩
  have hln : n ≤ 4611686018427387904 := by rw [hn]; unfold LenOkTyItem at hlN; omega
  rw [← hn] at S ⊢
  replace hn := Lib.hid hn; replace S := Lib.hid S; replace hnd := Lib.hid hnd; replace hlo := Lib.hid hlo; replace hkn := Lib.hid hkn; replace hlN := Lib.hid hlN
  go_enter Tryz.func95, Tryz.ntmps95
  go_wp2_with fail
  go_loopw [1, 5] (fun kk i wr => ∃ m j : Nat, j ≤ n ∧ Hid (m = k + cntL cntTyItem (xs.take j)) ∧ kk = .int .i64 m ∧ i = .int .i64 j ∧ Hid (SlO 106 3 GTyItem.O bs wr (.slice a n c) (markN mkTyItem cntTyItem k xs j)) ∧ Below lo w wr ∧ Hid (Kept (· ∈ bs) w wr)) (fun _ i _ => n - (intOf i).toNat)
  case atStart => exact ⟨k, 0, by omega, by show _ = _; simp [cntL], rfl, rfl, by show SlO _ _ _ _ _ _ _; rw [markN_zero]; exact S.out, Below.refl _ _, Kept.refl _ _⟩
  case round =>
    clear S
    obtain ⟨m, j, hj, hm, rfl, rfl, S, hw0, hK0⟩ := hrel
    have hz0 := hw0.size
    by_cases hlt : j < n
    · obtain ⟨x, hx⟩ : ∃ x, xs[j]? = some x := ⟨_, List.getElem?_eq_getElem (by have := hn.out; omega)⟩
      have hks := cntL_take (cnt := cntTyItem) hx
      have hle := cntL_le cntTyItem xs (j + 1)
      have hmx : m + cntTyItem x ≤ 4611686018427387904 := by have := hkn.out; have := hm.out; omega
      have hS := S.out
      clear S
      rcases hS with ⟨he, _⟩ | ⟨ps, ⟨rows, hown, hrows⟩, hbs⟩
      · exfalso
        have := markN_length (mk := mkTyItem) (cnt := cntTyItem) k xs j
        rw [he] at this
        have := hn.out
        simp at *
        omega
      rw [markN_length, ← hn.out] at hown
      obtain ⟨g, cap, hv, -⟩ := own_cells hown (by omega)
      obtain ⟨rfl, rfl⟩ : a = some ⟨g, 0, none⟩ ∧ c = cap := by injection hv with e1 e2 e3; exact ⟨e1, e3⟩
      clear hv
      obtain ⟨p, r, hp, hr, hrl, ho⟩ := hrows.at (markN_get hx)
      have M0 := MidO.start hown hrows.wide (by rw [hrows.lr, markN_length, ← hn.out]) hr
      have hnd2 := hnd.out
      rw [hbs, fpO_slice, List.nodup_cons] at hnd2
      have hgp : g ∉ p := fun h => hnd2.1 (List.mem_flatten.2 ⟨p, List.mem_of_getElem? hp, h⟩)
      have hpn : p.Nodup := (List.pairwise_flatten.1 hnd2.2).1 p (List.mem_of_getElem? hp)
      have hpb : ∀ b ∈ p, b ∈ bs := fun b hb => by rw [hbs, fpO_slice]; exact List.mem_cons_of_mem _ (List.mem_flatten.2 ⟨p, List.mem_of_getElem? hp, hb⟩)
      have hgb : g ∈ bs := by rw [hbs, fpO_slice]; exact List.mem_cons_self
      have hlog : lo ≤ g := hlo.out g hgb
      have hgw := M0.lt
      obtain ⟨hpe, rfl, hwf⟩ := ho
      unfold cntTyItem at hmx
      obtain ⟨e0, f0⟩ := M0.cell (off := j * 3) (t := 0) (by omega) rfl
      obtain ⟨e1, f1⟩ := M0.cell (off := j * 3 + 1) (t := 1) (by omega) rfl
      obtain ⟨e2, f2⟩ := M0.cell (off := j * 3 + 2) (t := 2) (by omega) rfl
      clear hown
      replace hrows := Lib.hid hrows; replace hbs := Lib.hid hbs; replace hp := Lib.hid hp; replace hx := Lib.hid hx; replace hks := Lib.hid hks; replace hle := Lib.hid hle; replace M0 := Lib.hid M0; replace hr := Lib.hid hr; replace hrl := Lib.hid hrl; replace hwf := Lib.hid hwf; replace hnd2 := Lib.hid hnd2; replace hpb := Lib.hid hpb; replace hgp := Lib.hid hgp; replace hgb := Lib.hid hgb; replace hpe := Lib.hid hpe; replace hpn := Lib.hid hpn
      go_wp2_with fail
      refine (markText_z (m + 1) _ (by omega) (by omega) _).mono ?_
      rintro e w2 ⟨rfl, hb2⟩
      have M1 := MidO.below (M0.out.set (off := j * 3) (t := 0) (by omega) (by omega) (.int .i64 (m : Int))) hb2
      have K1 := ((Kept.refl (fun b => b = g) wr).set (p := ⟨g, j * 3, none⟩) rfl (.int .i64 (m : Int))).trans (by simp [World.setCell]) (Kept.below hb2)
      have B1 := (hw0.setCell (p := ⟨g, j * 3, none⟩) (by dsimp only; omega) (.int .i64 (m : Int))).trans (hb2.mono (by simp [World.setCell]; omega))
      have z1 := B1.size
      obtain ⟨e1', f1'⟩ := M1.cell (off := j * 3 + 1) (t := 1) (by omega) rfl
      obtain ⟨e2', f2'⟩ := M1.cell (off := j * 3 + 2) (t := 2) (by omega) rfl
      clear hb2 e0 e1 e2 f0 f1 f2
      replace M1 := Lib.hid M1; replace K1 := Lib.hid K1
      go_wp2_with fail
      have KF := (K1.out.set (p := ⟨g, j * 3 + 1, none⟩) rfl (.string (markT (m + 1)))).set (p := ⟨g, j * 3 + 2, none⟩) rfl (.int .i64 ((m : Int) + 1 + 1))
      have MF := (M1.out.set (off := j * 3 + 1) (t := 1) (by omega) (by omega) (.string (markT (m + 1)))).set (off := j * 3 + 2) (t := 2) (by omega) (by omega) (.int .i64 ((m : Int) + 1 + 1))
      have BF := (B1.setCell (p := ⟨g, j * 3 + 1, none⟩) (by dsimp only; omega) (.string (markT (m + 1)))).setCell (p := ⟨g, j * 3 + 2, none⟩) (by dsimp only; omega) (.int .i64 ((m : Int) + 1 + 1))
      go_roundw
      case rel => exact ⟨m + 3, j + 1, by omega, by show _ = _; rw [hks.out, hm.out]; rfl, by go_num, by go_num, .inr ⟨ps, (GrowO.mark GTyItem.ok (k := k) rfl hrows.out hx.out hp.out (hbs.out ▸ hnd.out) (r := [.int .i64 (m : Int), .string (markT (m + 1)), .int .i64 ((m : Int) + 1 + 1)]) rfl hn.out MF.own ⟨hpe.out, by rw [← hm.out]; simp [mkTyItem, tyRow]; omega, by rw [← hm.out]; exact ⟨by unfold mkTyItem I64; dsimp only; omega, markT_ok (n := m + 1) (by omega), by unfold mkTyItem I64; dsimp only; omega⟩⟩ (kept_imp KF fun q h => .inl h)), hbs.out⟩, BF, hK0.out.trans hz0 (kept_imp KF fun q h => by subst h; exact hgb.out)⟩
      case measure => simp [intOf]; omega
    · obtain rfl : j = n := by omega
      have e1 := hn.out
      have h2 := S.out
      have h3 := hm.out
      rw [List.take_of_length_le (by omega)] at h3
      rw [e1, markN_all, ← e1] at h2
      replace h2 := Lib.hid h2; replace h3 := Lib.hid h3
      clear e1
      go_wp2
      go_returns
      exact ⟨by rw [← h3.out]; rfl, h2.out, hK0.out, hw0⟩

end Go.Proofs.YtaimekaagmcmnaaGreat
