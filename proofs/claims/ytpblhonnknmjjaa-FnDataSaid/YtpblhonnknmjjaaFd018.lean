/- Parts of the proof, merged: Less2, LtLaw3. -/
import Derived.Test.YtpblhonnknmjjaaFd017
/- Which of two values comes first: the program's DataLess. -/
namespace Go.Proofs.Ytpblhonnknmjjaa
open Go.RowKit
set_option linter.unusedVariables false
set_option linter.unusedSimpArgs false
attribute [local go_sem] Ext.cell

set_option maxRecDepth 100000 in
set_option maxHeartbeats 8000000 in
theorem impl_DataLess_c (a : GData) (ra : List Value) (la : Nat) (b : GData) (rb : List Value) (lb : Nat) (hba : a.bulk ≤ 1048576) (hbb : b.bulk ≤ 1048576) (w : World) (hra : GData.R la w ra a) (hrb : GData.R lb w rb b) :
    Calls Try.prog 7 #[.agg ra.toArray, .agg rb.toArray] w fun e w' => e = .returned (.bool (dataLess a b)) ∧ Below w.heap.size w w' := by
  have hda : a.nodes.length ≤ 1152921504606846976 := by have := length_le_bulkS GDNode.bulk_nonneg a.nodes; unfold GData.bulk at hba; omega
  have hdb : b.nodes.length ≤ 1152921504606846976 := by have := length_le_bulkS GDNode.bulk_nonneg b.nodes; unfold GData.bulk at hbb; omega
  have c1 := fun W (hW : Below w.heap.size w W) => DataOk_c a hda ra la W (GData.good.below hra hW)
  have c2 := fun W (hW : Below w.heap.size w W) => DataOk_c b hdb rb lb W (GData.good.below hrb hW)
  obtain ⟨u, rfl, -, hu⟩ := hra
  obtain ⟨aa, ac, rfl, al, am, a0⟩ := hu
  obtain ⟨u, rfl, -, hu⟩ := hrb
  obtain ⟨ba, bc, rfl, bl, bm, b0⟩ := hu
  obtain ⟨n, hn⟩ : ∃ n, n = a.nodes.length := ⟨_, rfl⟩
  obtain ⟨m, hm⟩ : ∃ m, m = b.nodes.length := ⟨_, rfl⟩
  rw [← hn] at al hda c1 ⊢
  rw [← hm] at bl hdb c2 ⊢
  replace hn := Lib.hid hn; replace hm := Lib.hid hm
  replace a0 := Lib.hid a0; replace b0 := Lib.hid b0; replace c1 := Lib.hid c1; replace c2 := Lib.hid c2
  clear hba hbb
  cases hoa : dataOk a with
  | false =>
    rw [hoa] at c1
    have hfin : Hid (dataLess a b = false) := by show _ = _; unfold dataLess; rw [hoa]; rfl
    clear hoa
    go_enter Try.func7, Try.ntmps7
    go_upto_region 1 with fail
    have A : RowAt (w.alloc (.cells #[.slice aa n ac] 25)) (w.heap.size) 0 [.slice aa n ac] := RowAt.box w #[.slice aa n ac] 25
    have A := A.below (show Below (w.alloc (.cells #[.slice aa n ac] 25)).heap.size (w.alloc (.cells #[.slice aa n ac] 25)) ((w.alloc (.cells #[.slice aa n ac] 25)).alloc (.cells #[.slice ba m bc] 25)) by go_grown)
    have B : RowAt ((w.alloc (.cells #[.slice aa n ac] 25)).alloc (.cells #[.slice ba m bc] 25)) (w.heap.size + 1) 0 [.slice ba m bc] := by have h := RowAt.box (w.alloc (.cells #[.slice aa n ac] 25)) #[.slice ba m bc] 25; simp only [World.size_alloc] at h; exact h
    have hw : Below w.heap.size w ((w.alloc (.cells #[.slice aa n ac] 25)).alloc (.cells #[.slice ba m bc] 25)) := by go_grown
    generalize ((w.alloc (.cells #[.slice aa n ac] 25)).alloc (.cells #[.slice ba m bc] 25)) = w0 at *
    have a_0 := A.box1; have hsA := World.block_lt_of_cell? _ _ a_0; dsimp only at hsA; have b_0 := B.box1; have hsB := World.block_lt_of_cell? _ _ b_0; dsimp only at hsB
    go_wp2_with (go_at_call 22; ((with_reducible refine (c1.out _ hw).mono ?_); rintro e w1 ⟨rfl, hb⟩; have hw := hw.trans (hb.mono hw.size); have A := A.below hb; have a_0 := A.box1; have hsA := World.block_lt_of_cell? _ _ a_0; dsimp only at hsA; have B := B.below hb; have b_0 := B.box1; have hsB := World.block_lt_of_cell? _ _ b_0; dsimp only at hsB; clear hb))
    go_returns
    exact ⟨by rw [hfin.out]; rfl, hw⟩
  | true =>
    rw [hoa] at c1
    cases hob : dataOk b with
    | false =>
      rw [hob] at c2
      have hfin : Hid (dataLess a b = false) := by show _ = _; unfold dataLess; rw [hoa, hob]; rfl
      clear hoa hob
      go_enter Try.func7, Try.ntmps7
      go_upto_region 1 with fail
      have A : RowAt (w.alloc (.cells #[.slice aa n ac] 25)) (w.heap.size) 0 [.slice aa n ac] := RowAt.box w #[.slice aa n ac] 25
      have A := A.below (show Below (w.alloc (.cells #[.slice aa n ac] 25)).heap.size (w.alloc (.cells #[.slice aa n ac] 25)) ((w.alloc (.cells #[.slice aa n ac] 25)).alloc (.cells #[.slice ba m bc] 25)) by go_grown)
      have B : RowAt ((w.alloc (.cells #[.slice aa n ac] 25)).alloc (.cells #[.slice ba m bc] 25)) (w.heap.size + 1) 0 [.slice ba m bc] := by have h := RowAt.box (w.alloc (.cells #[.slice aa n ac] 25)) #[.slice ba m bc] 25; simp only [World.size_alloc] at h; exact h
      have hw : Below w.heap.size w ((w.alloc (.cells #[.slice aa n ac] 25)).alloc (.cells #[.slice ba m bc] 25)) := by go_grown
      generalize ((w.alloc (.cells #[.slice aa n ac] 25)).alloc (.cells #[.slice ba m bc] 25)) = w0 at *
      have a_0 := A.box1; have hsA := World.block_lt_of_cell? _ _ a_0; dsimp only at hsA; have b_0 := B.box1; have hsB := World.block_lt_of_cell? _ _ b_0; dsimp only at hsB
      go_wp2_with (first | (go_at_call 22; ((with_reducible refine (c1.out _ hw).mono ?_); rintro e w1 ⟨rfl, hb⟩; have hw := hw.trans (hb.mono hw.size); have A := A.below hb; have a_0 := A.box1; have hsA := World.block_lt_of_cell? _ _ a_0; dsimp only at hsA; have B := B.below hb; have b_0 := B.box1; have hsB := World.block_lt_of_cell? _ _ b_0; dsimp only at hsB; clear hb)) | (go_at_call 22; ((with_reducible refine (c2.out _ hw).mono ?_); rintro e w1 ⟨rfl, hb⟩; have hw := hw.trans (hb.mono hw.size); have A := A.below hb; have a_0 := A.box1; have hsA := World.block_lt_of_cell? _ _ a_0; dsimp only at hsA; have B := B.below hb; have b_0 := B.box1; have hsB := World.block_lt_of_cell? _ _ b_0; dsimp only at hsB; clear hb)))
      go_returns
      exact ⟨by rw [hfin.out]; rfl, hw⟩
    | true =>
      rw [hob] at c2
      have hfin : Hid (dataLess a b = lessL a.nodes b.nodes) := by show _ = _; unfold dataLess; rw [hoa, hob]; rfl
      clear hoa hob
      go_enter Try.func7, Try.ntmps7
      go_upto_region 1 with fail
      have A : RowAt (w.alloc (.cells #[.slice aa n ac] 25)) (w.heap.size) 0 [.slice aa n ac] := RowAt.box w #[.slice aa n ac] 25
      have A := A.below (show Below (w.alloc (.cells #[.slice aa n ac] 25)).heap.size (w.alloc (.cells #[.slice aa n ac] 25)) ((w.alloc (.cells #[.slice aa n ac] 25)).alloc (.cells #[.slice ba m bc] 25)) by go_grown)
      have B : RowAt ((w.alloc (.cells #[.slice aa n ac] 25)).alloc (.cells #[.slice ba m bc] 25)) (w.heap.size + 1) 0 [.slice ba m bc] := by have h := RowAt.box (w.alloc (.cells #[.slice aa n ac] 25)) #[.slice ba m bc] 25; simp only [World.size_alloc] at h; exact h
      have hw : Below w.heap.size w ((w.alloc (.cells #[.slice aa n ac] 25)).alloc (.cells #[.slice ba m bc] 25)) := by go_grown
      generalize ((w.alloc (.cells #[.slice aa n ac] 25)).alloc (.cells #[.slice ba m bc] 25)) = w0 at *
      have a_0 := A.box1; have hsA := World.block_lt_of_cell? _ _ a_0; dsimp only at hsA; have b_0 := B.box1; have hsB := World.block_lt_of_cell? _ _ b_0; dsimp only at hsB
      go_wp2_with (first | (go_at_call 22; ((with_reducible refine (c1.out _ hw).mono ?_); rintro e w1 ⟨rfl, hb⟩; have hw := hw.trans (hb.mono hw.size); have A := A.below hb; have a_0 := A.box1; have hsA := World.block_lt_of_cell? _ _ a_0; dsimp only at hsA; have B := B.below hb; have b_0 := B.box1; have hsB := World.block_lt_of_cell? _ _ b_0; dsimp only at hsB; clear hb)) | (go_at_call 22; ((with_reducible refine (c2.out _ hw).mono ?_); rintro e w1 ⟨rfl, hb⟩; have hw := hw.trans (hb.mono hw.size); have A := A.below hb; have a_0 := A.box1; have hsA := World.block_lt_of_cell? _ _ a_0; dsimp only at hsA; have B := B.below hb; have b_0 := B.box1; have hsB := World.block_lt_of_cell? _ _ b_0; dsimp only at hsB; clear hb)))
      go_upto_region 4 with fail
      all_goals
        clear c1 c2
        go_loopw [23] (fun i wr => ∃ k : Nat, k ≤ n ∧ k ≤ m ∧ i = .int .i64 k ∧ Below w.heap.size w wr ∧ RowAt wr w.heap.size 0 [.slice aa n ac] ∧ RowAt wr (w.heap.size + 1) 0 [.slice ba m bc] ∧ Hid (lessL a.nodes b.nodes = lessL (a.nodes.drop k) (b.nodes.drop k))) (fun i _ => n - (intOf i).toNat)
        case atStart => exact ⟨0, by omega, by omega, rfl, hw, A, B, rfl⟩
        case round =>
          clear hw A B a_0 b_0 hsA hsB
          obtain ⟨k, hk, hkm, rfl, hw, A, B, hF⟩ := hrel
          have a_0 := A.box1; have hsA := World.block_lt_of_cell? _ _ a_0; dsimp only at hsA; have b_0 := B.box1; have hsB := World.block_lt_of_cell? _ _ b_0; dsimp only at hsB
          by_cases hlt : k < n
          · by_cases hlt2 : k < m
            · obtain ⟨ab, ao, x, s1, _, rfl, P1, hx, r1⟩ := (a0.out.below GDNode.good hw).get hn hlt
              obtain ⟨bb, bo, y, s2, _, rfl, P2, hy, r2⟩ := (b0.out.below GDNode.good hw).get hm hlt2
              have hst := lessL_drop P1.out P2.out
              have hC := nodeCmp_ways x y
              obtain ⟨xu, rfl, -, hxk⟩ := hx
              obtain ⟨yu, rfl, -, hyk⟩ := hy
              obtain ⟨xa, xc, rfl⟩ := hxk.form
              obtain ⟨ya, yc, rfl⟩ := hyk.form
              clear hxk hyk P1 P2
              obtain ⟨e_0, e_1, e_2, e_3⟩ := r1.cells4
              obtain ⟨f_0, f_1, f_2, f_3⟩ := r2.cells4
              have hb1 := World.block_lt_of_cell? _ _ e_0
              have hb2 := World.block_lt_of_cell? _ _ f_0
              dsimp only at hb1 hb2
              clear r1 r2
              generalize x.kind = xk at *
              generalize y.kind = yk at *
              generalize x.n = xn at *
              generalize y.n = yn at *
              generalize x.s = xs at *
              generalize y.s = ys at *
              generalize x.kids.length = xl at *
              generalize y.kids.length = yl at *
              generalize hnc : nodeCmp x y = nc at *
              clear hnc
              rcases hC with ⟨h1, rfl⟩ | ⟨h1, h2, rfl⟩ | ⟨h1, h2, h3, rfl⟩ | ⟨h1, h2, h3, h4, rfl⟩ | ⟨h1, h2, h3, h4, rfl⟩
              all_goals replace hst := Lib.hid hst
              all_goals go_upto_region 6 with fail
              all_goals go_region_held3 (fun w' => w'.cell? ⟨w.heap.size, 0, none⟩ = some (.slice (some ⟨ab, ao, none⟩) n ac) ∧ w'.cell? ⟨w.heap.size + 1, 0, none⟩ = some (.slice (some ⟨bb, bo, none⟩) m bc) ∧ w'.cell? ⟨ab, ao + k * 4, none⟩ = some (.int .i64 xk) ∧ w'.cell? ⟨ab, ao + k * 4 + 1, none⟩ = some (.int .i64 xn) ∧ w'.cell? ⟨ab, ao + k * 4 + 2, none⟩ = some (.string xs) ∧ w'.cell? ⟨ab, ao + k * 4 + 3, none⟩ = some (.slice xa xl xc) ∧ w'.cell? ⟨bb, bo + k * 4, none⟩ = some (.int .i64 yk) ∧ w'.cell? ⟨bb, bo + k * 4 + 1, none⟩ = some (.int .i64 yn) ∧ w'.cell? ⟨bb, bo + k * 4 + 2, none⟩ = some (.string ys) ∧ w'.cell? ⟨bb, bo + k * 4 + 3, none⟩ = some (.slice ya yl yc)) (go_keep) (fail)
              all_goals go_wp2_with fail
              all_goals first
                | (go_returns
                   refine ⟨?_, by go_grown⟩
                   rw [hfin.out, hF.out, hst.out]
                   first | rfl | (simp; done))
                | (go_roundw
                   case rel => exact ⟨k + 1, by omega, by omega, by go_num, by go_grown, A.below (by go_grown), B.below (by go_grown), hF.out.trans hst.out⟩
                   case measure => simp [intOf]; omega)
            · obtain rfl : m = k := by omega
              have hend : lessL (a.nodes.drop m) (b.nodes.drop m) = false := lessL_out (.inr (by have := hm.out; omega))
              replace hend := Lib.hid hend
              go_wp2_with fail
              go_returns
              exact ⟨by rw [hfin.out, hF.out, hend.out]; rfl, hw⟩
          · obtain rfl : n = k := by omega
            have hend : lessL (a.nodes.drop n) (b.nodes.drop n) = false := lessL_out (.inl (by have := hn.out; omega))
            replace hend := Lib.hid hend
            go_wp2_with fail
            all_goals go_returns
            all_goals exact ⟨by rw [hfin.out, hF.out, hend.out]; rfl, hw⟩

end Go.Proofs.Ytpblhonnknmjjaa

/- The law FnDataLess: of two different values exactly one comes before the other. -/
namespace Go.Proofs.Ytpblhonnknmjjaa
open Go.RowKit
set_option linter.unusedVariables false
set_option linter.unusedSimpArgs false
attribute [local go_sem] Ext.cell

theorem toList_ne {s t : ByteArray} : (s.toList == t.toList) = decide (s = t) := by
  by_cases h : s = t
  · subst h; simp
  · rw [decide_eq_false h]
    simpa [toList_eq] using h
namespace fnDataLess
set_option maxRecDepth 100000 in
set_option maxHeartbeats 16000000 in
theorem law (u : Value) (bs : List UInt8) (w : World) (hx : Sl ByteR 1 0 w u bs) :
    Calls Try.prog 3 #[u] w fun en w' => en = .returned (.bool true) ∧ Below w.heap.size w w' := by
  by_cases hlen : bs.length ≤ 1048576
  rotate_left
  · obtain ⟨ua, uc, rfl⟩ := hx.form
    have hd : decide (1048576 < bs.length) = true := decide_eq_true (by omega)
    go_enter Try.func3, Try.ntmps3
    go_wp2_with fail
    go_returns
    exact ⟨rfl, Below.refl _ _⟩
  have hd : decide (1048576 < bs.length) = false := decide_eq_false (by omega)
  have cD := drawDataLess_c w u bs hx hlen
  obtain ⟨ua, uc, rfl⟩ := hx.form
  clear hx
  replace cD := Lib.hid cD
  go_enter Try.func3, Try.ntmps3
  go_upto_region 4 with (go_at_call 6; (with_reducible refine (cD.out).mono ?_); rintro e w1 ⟨va, vb, la, lb, rfl, SA, SB, da, db, hw1⟩; obtain ⟨xa, ca, rfl⟩ := SA.form; obtain ⟨xb, cb, rfl⟩ := SB.form)
  obtain ⟨w2, hW2⟩ : ∃ W, W = w1.alloc (.cells #[.slice xa la.length ca] 25) := ⟨_, rfl⟩
  obtain ⟨w3, hW3⟩ : ∃ W, W = w2.alloc (.cells #[.slice xb lb.length cb] 25) := ⟨_, rfl⟩
  have hs2 : w2.heap.size = w1.heap.size + 1 := by rw [hW2]; simp
  rw [← hW2, ← hW3, ← hs2]
  have hb2 : Below w1.heap.size w1 w2 := by rw [hW2]; go_grown
  have hb3 : Below w2.heap.size w2 w3 := by rw [hW3]; go_grown
  have A : RowAt w3 w1.heap.size 0 [.slice xa la.length ca] := RowAt.below (by rw [hW2]; exact RowAt.box w1 #[_] _) hb3
  have B : RowAt w3 w2.heap.size 0 [.slice xb lb.length cb] := by rw [hW3]; exact RowAt.box w2 #[_] _
  have hw3 : Below w.heap.size w w3 := (hw1.trans (hb2.mono hw1.size)).trans (hb3.mono (by have := hw1.size; omega))
  have SA3 := (SA.below GDNode.good hb2).below GDNode.good hb3
  have SB3 := (SB.below GDNode.good hb2).below GDNode.good hb3
  clear hW2 hW3 hs2 hb2 hb3 SA SB hw1 cD
  generalize w1.heap.size = bP at *
  generalize w2.heap.size = bQ at *
  have RA : GData.R w.heap.size w3 [.slice xa la.length ca] ⟨la⟩ := ⟨_, rfl, trivial, SA3⟩
  have RB : GData.R w.heap.size w3 [.slice xb lb.length cb] ⟨lb⟩ := ⟨_, rfl, trivial, SB3⟩
  have hba := da.bulk
  have hbb := db.bulk
  have hla : (GData.mk la).nodes.length ≤ 1152921504606846976 := by have := da.2.1; show la.length ≤ _; omega
  have hlb : (GData.mk lb).nodes.length ≤ 1152921504606846976 := by have := db.2.1; show lb.length ≤ _; omega
  have c1 := fun W (hW : Below w3.heap.size w3 W) => impl_DataLess_c ⟨la⟩ _ _ ⟨lb⟩ _ _ hba hbb W (GData.good.below RA hW) (GData.good.below RB hW)
  have c2 := fun W (hW : Below w3.heap.size w3 W) => impl_DataLess_c ⟨lb⟩ _ _ ⟨la⟩ _ _ hbb hba W (GData.good.below RB hW) (GData.good.below RA hW)
  have c3 := fun W (hW : Below w3.heap.size w3 W) => spec_DataLess_c ⟨la⟩ _ _ ⟨lb⟩ _ _ hba hbb W (GData.good.below RA hW) (GData.good.below RB hW)
  have c4 := fun W (hW : Below w3.heap.size w3 W) => specDataOk_c ⟨la⟩ hla _ _ W (GData.good.below RA hW)
  have c5 := fun W (hW : Below w3.heap.size w3 W) => specDataOk_c ⟨lb⟩ hlb _ _ W (GData.good.below RB hW)
  have c6 := fun W (hW : Below w3.heap.size w3 W) => impl_DataText_c ⟨la⟩ _ _ hba W (GData.good.below RA hW)
  have c7 := fun W (hW : Below w3.heap.size w3 W) => impl_DataText_c ⟨lb⟩ _ _ hbb W (GData.good.below RB hW)
  have hlaw := fun ha hb => less_law (a := ⟨la⟩) (b := ⟨lb⟩) ha hb
  have hno : (dataOk ⟨la⟩ = false ∨ dataOk ⟨lb⟩ = false) → dataLess ⟨la⟩ ⟨lb⟩ = false ∧ dataLess ⟨lb⟩ ⟨la⟩ = false := by
    intro h
    unfold dataLess
    rcases h with h | h <;> rw [h] <;> simp
  generalize dataLess ⟨la⟩ ⟨lb⟩ = x at *
  generalize dataLess ⟨lb⟩ ⟨la⟩ = y at *
  generalize dataOk ⟨la⟩ = oa at *
  generalize dataOk ⟨lb⟩ = ob at *
  generalize dataText ⟨la⟩ = ta at *
  generalize dataText ⟨lb⟩ = tb at *
  generalize la.length = na at *
  generalize lb.length = nb at *
  clear RA RB SA3 SB3 hba hbb hla hlb da db
  have hw : Below w3.heap.size w3 w3 := Below.refl _ _
  have hways : (x = false ∧ y = false ∧ (oa = false ∨ ob = false)) ∨ (oa = true ∧ ob = true ∧ x = false ∧ y = false ∧ (ta.toList == tb.toList) = true) ∨ (oa = true ∧ ob = true ∧ x = true ∧ y = false ∧ (ta.toList == tb.toList) = false) ∨ (oa = true ∧ ob = true ∧ x = false ∧ y = true ∧ (ta.toList == tb.toList) = false) := by
    cases oa
    · exact .inl ⟨(hno (.inl rfl)).1, (hno (.inl rfl)).2, .inl rfl⟩
    · cases ob
      · exact .inl ⟨(hno (.inr rfl)).1, (hno (.inr rfl)).2, .inr rfl⟩
      · rcases hlaw rfl rfl with ⟨h1, h2, h3⟩ | ⟨h1, h2⟩
        · exact .inr (.inl ⟨rfl, rfl, h2, h3, by rw [toList_ne]; exact decide_eq_true h1⟩)
        · have h3 : (ta.toList == tb.toList) = false := by rw [toList_ne]; exact decide_eq_false h1
          cases x
          · exact .inr (.inr (.inr ⟨rfl, rfl, rfl, h2, h3⟩))
          · exact .inr (.inr (.inl ⟨rfl, rfl, rfl, h2, h3⟩))
  clear hlaw hno
  replace c1 := Lib.hid c1; replace c2 := Lib.hid c2; replace c3 := Lib.hid c3; replace c4 := Lib.hid c4; replace c5 := Lib.hid c5; replace c6 := Lib.hid c6; replace c7 := Lib.hid c7
  have a_0 := A.box1; have hsA := World.block_lt_of_cell? _ _ a_0; dsimp only at hsA; have b_0 := B.box1; have hsB := World.block_lt_of_cell? _ _ b_0; dsimp only at hsB
  rcases hways with ⟨rfl, rfl, ho⟩ | ⟨rfl, rfl, rfl, rfl, ht⟩ | ⟨rfl, rfl, rfl, rfl, ht⟩ | ⟨rfl, rfl, rfl, rfl, ht⟩
  · rcases ho with rfl | rfl
    · go_wp2_with (first | (go_at_call 7; ((with_reducible refine (c1.out _ hw).mono ?_); rintro e w1 ⟨rfl, hb⟩; have hw := hw.trans (hb.mono hw.size); have A := A.below hb; have a_0 := A.box1; have hsA := World.block_lt_of_cell? _ _ a_0; dsimp only at hsA; have B := B.below hb; have b_0 := B.box1; have hsB := World.block_lt_of_cell? _ _ b_0; dsimp only at hsB; clear hb)) | (go_at_call 7; ((with_reducible refine (c2.out _ hw).mono ?_); rintro e w1 ⟨rfl, hb⟩; have hw := hw.trans (hb.mono hw.size); have A := A.below hb; have a_0 := A.box1; have hsA := World.block_lt_of_cell? _ _ a_0; dsimp only at hsA; have B := B.below hb; have b_0 := B.box1; have hsB := World.block_lt_of_cell? _ _ b_0; dsimp only at hsB; clear hb)) | (go_at_call 8; ((with_reducible refine (c3.out _ hw).mono ?_); rintro e w1 ⟨rfl, hb⟩; have hw := hw.trans (hb.mono hw.size); have A := A.below hb; have a_0 := A.box1; have hsA := World.block_lt_of_cell? _ _ a_0; dsimp only at hsA; have B := B.below hb; have b_0 := B.box1; have hsB := World.block_lt_of_cell? _ _ b_0; dsimp only at hsB; clear hb)) | (go_at_call 9; ((with_reducible refine (c4.out _ hw).mono ?_); rintro e w1 ⟨rfl, hb⟩; have hw := hw.trans (hb.mono hw.size); have A := A.below hb; have a_0 := A.box1; have hsA := World.block_lt_of_cell? _ _ a_0; dsimp only at hsA; have B := B.below hb; have b_0 := B.box1; have hsB := World.block_lt_of_cell? _ _ b_0; dsimp only at hsB; clear hb)) | (go_at_call 9; ((with_reducible refine (c5.out _ hw).mono ?_); rintro e w1 ⟨rfl, hb⟩; have hw := hw.trans (hb.mono hw.size); have A := A.below hb; have a_0 := A.box1; have hsA := World.block_lt_of_cell? _ _ a_0; dsimp only at hsA; have B := B.below hb; have b_0 := B.box1; have hsB := World.block_lt_of_cell? _ _ b_0; dsimp only at hsB; clear hb)))
      go_returns
      exact ⟨rfl, hw3.trans (hw.mono hw3.size)⟩
    · cases oa
      all_goals
        go_wp2_with (first | (go_at_call 7; ((with_reducible refine (c1.out _ hw).mono ?_); rintro e w1 ⟨rfl, hb⟩; have hw := hw.trans (hb.mono hw.size); have A := A.below hb; have a_0 := A.box1; have hsA := World.block_lt_of_cell? _ _ a_0; dsimp only at hsA; have B := B.below hb; have b_0 := B.box1; have hsB := World.block_lt_of_cell? _ _ b_0; dsimp only at hsB; clear hb)) | (go_at_call 7; ((with_reducible refine (c2.out _ hw).mono ?_); rintro e w1 ⟨rfl, hb⟩; have hw := hw.trans (hb.mono hw.size); have A := A.below hb; have a_0 := A.box1; have hsA := World.block_lt_of_cell? _ _ a_0; dsimp only at hsA; have B := B.below hb; have b_0 := B.box1; have hsB := World.block_lt_of_cell? _ _ b_0; dsimp only at hsB; clear hb)) | (go_at_call 8; ((with_reducible refine (c3.out _ hw).mono ?_); rintro e w1 ⟨rfl, hb⟩; have hw := hw.trans (hb.mono hw.size); have A := A.below hb; have a_0 := A.box1; have hsA := World.block_lt_of_cell? _ _ a_0; dsimp only at hsA; have B := B.below hb; have b_0 := B.box1; have hsB := World.block_lt_of_cell? _ _ b_0; dsimp only at hsB; clear hb)) | (go_at_call 9; ((with_reducible refine (c4.out _ hw).mono ?_); rintro e w1 ⟨rfl, hb⟩; have hw := hw.trans (hb.mono hw.size); have A := A.below hb; have a_0 := A.box1; have hsA := World.block_lt_of_cell? _ _ a_0; dsimp only at hsA; have B := B.below hb; have b_0 := B.box1; have hsB := World.block_lt_of_cell? _ _ b_0; dsimp only at hsB; clear hb)) | (go_at_call 9; ((with_reducible refine (c5.out _ hw).mono ?_); rintro e w1 ⟨rfl, hb⟩; have hw := hw.trans (hb.mono hw.size); have A := A.below hb; have a_0 := A.box1; have hsA := World.block_lt_of_cell? _ _ a_0; dsimp only at hsA; have B := B.below hb; have b_0 := B.box1; have hsB := World.block_lt_of_cell? _ _ b_0; dsimp only at hsB; clear hb)))
        go_returns
        exact ⟨rfl, hw3.trans (hw.mono hw3.size)⟩
  · go_upto_region 10 with (first | (go_at_call 7; ((with_reducible refine (c1.out _ hw).mono ?_); rintro e w1 ⟨rfl, hb⟩; have hw := hw.trans (hb.mono hw.size); have A := A.below hb; have a_0 := A.box1; have hsA := World.block_lt_of_cell? _ _ a_0; dsimp only at hsA; have B := B.below hb; have b_0 := B.box1; have hsB := World.block_lt_of_cell? _ _ b_0; dsimp only at hsB; clear hb)) | (go_at_call 7; ((with_reducible refine (c2.out _ hw).mono ?_); rintro e w1 ⟨rfl, hb⟩; have hw := hw.trans (hb.mono hw.size); have A := A.below hb; have a_0 := A.box1; have hsA := World.block_lt_of_cell? _ _ a_0; dsimp only at hsA; have B := B.below hb; have b_0 := B.box1; have hsB := World.block_lt_of_cell? _ _ b_0; dsimp only at hsB; clear hb)) | (go_at_call 8; ((with_reducible refine (c3.out _ hw).mono ?_); rintro e w1 ⟨rfl, hb⟩; have hw := hw.trans (hb.mono hw.size); have A := A.below hb; have a_0 := A.box1; have hsA := World.block_lt_of_cell? _ _ a_0; dsimp only at hsA; have B := B.below hb; have b_0 := B.box1; have hsB := World.block_lt_of_cell? _ _ b_0; dsimp only at hsB; clear hb)) | (go_at_call 9; ((with_reducible refine (c4.out _ hw).mono ?_); rintro e w1 ⟨rfl, hb⟩; have hw := hw.trans (hb.mono hw.size); have A := A.below hb; have a_0 := A.box1; have hsA := World.block_lt_of_cell? _ _ a_0; dsimp only at hsA; have B := B.below hb; have b_0 := B.box1; have hsB := World.block_lt_of_cell? _ _ b_0; dsimp only at hsB; clear hb)) | (go_at_call 9; ((with_reducible refine (c5.out _ hw).mono ?_); rintro e w1 ⟨rfl, hb⟩; have hw := hw.trans (hb.mono hw.size); have A := A.below hb; have a_0 := A.box1; have hsA := World.block_lt_of_cell? _ _ a_0; dsimp only at hsA; have B := B.below hb; have b_0 := B.box1; have hsB := World.block_lt_of_cell? _ _ b_0; dsimp only at hsB; clear hb)))
    obtain ⟨w9, hw9⟩ : ∃ W, W = w1 := ⟨_, rfl⟩
    subst hw9
    have c6' := fun W (hW : Below w9.heap.size w9 W) => c6.out W (hw.trans (hW.mono hw.size))
    have c7' := fun W (hW : Below w9.heap.size w9 W) => c7.out W (hw.trans (hW.mono hw.size))
    replace c6' := Lib.hid c6'; replace c7' := Lib.hid c7'
    refine wp_region_ext_lit (by kernel_rfl) (by kernel_rfl) ?_
    repeat (any_goals (first | go_big_quiet_step ((first | (go_at_call 10; with_reducible exact Calls.ext (c6'.out _ (Subtype.property _))) | (go_at_call 10; with_reducible exact Calls.ext (c7'.out _ (Subtype.property _))))) | quiet_step ((first | (go_at_call 10; with_reducible exact Calls.ext (c6'.out _ (Subtype.property _))) | (go_at_call 10; with_reducible exact Calls.ext (c7'.out _ (Subtype.property _)))))))
    all_goals (refine wpQuiet_nil ?_; rintro w8 ⟨⟨w10, hb⟩, rfl⟩)
    all_goals go_wp2_with fail
    all_goals go_returns
    all_goals exact ⟨rfl, hw3.trans ((hw.trans (hb.mono hw.size)).mono hw3.size)⟩
  · go_upto_region 10 with (first | (go_at_call 7; ((with_reducible refine (c1.out _ hw).mono ?_); rintro e w1 ⟨rfl, hb⟩; have hw := hw.trans (hb.mono hw.size); have A := A.below hb; have a_0 := A.box1; have hsA := World.block_lt_of_cell? _ _ a_0; dsimp only at hsA; have B := B.below hb; have b_0 := B.box1; have hsB := World.block_lt_of_cell? _ _ b_0; dsimp only at hsB; clear hb)) | (go_at_call 7; ((with_reducible refine (c2.out _ hw).mono ?_); rintro e w1 ⟨rfl, hb⟩; have hw := hw.trans (hb.mono hw.size); have A := A.below hb; have a_0 := A.box1; have hsA := World.block_lt_of_cell? _ _ a_0; dsimp only at hsA; have B := B.below hb; have b_0 := B.box1; have hsB := World.block_lt_of_cell? _ _ b_0; dsimp only at hsB; clear hb)) | (go_at_call 8; ((with_reducible refine (c3.out _ hw).mono ?_); rintro e w1 ⟨rfl, hb⟩; have hw := hw.trans (hb.mono hw.size); have A := A.below hb; have a_0 := A.box1; have hsA := World.block_lt_of_cell? _ _ a_0; dsimp only at hsA; have B := B.below hb; have b_0 := B.box1; have hsB := World.block_lt_of_cell? _ _ b_0; dsimp only at hsB; clear hb)) | (go_at_call 9; ((with_reducible refine (c4.out _ hw).mono ?_); rintro e w1 ⟨rfl, hb⟩; have hw := hw.trans (hb.mono hw.size); have A := A.below hb; have a_0 := A.box1; have hsA := World.block_lt_of_cell? _ _ a_0; dsimp only at hsA; have B := B.below hb; have b_0 := B.box1; have hsB := World.block_lt_of_cell? _ _ b_0; dsimp only at hsB; clear hb)) | (go_at_call 9; ((with_reducible refine (c5.out _ hw).mono ?_); rintro e w1 ⟨rfl, hb⟩; have hw := hw.trans (hb.mono hw.size); have A := A.below hb; have a_0 := A.box1; have hsA := World.block_lt_of_cell? _ _ a_0; dsimp only at hsA; have B := B.below hb; have b_0 := B.box1; have hsB := World.block_lt_of_cell? _ _ b_0; dsimp only at hsB; clear hb)))
    obtain ⟨w9, hw9⟩ : ∃ W, W = w1 := ⟨_, rfl⟩
    subst hw9
    have c6' := fun W (hW : Below w9.heap.size w9 W) => c6.out W (hw.trans (hW.mono hw.size))
    have c7' := fun W (hW : Below w9.heap.size w9 W) => c7.out W (hw.trans (hW.mono hw.size))
    replace c6' := Lib.hid c6'; replace c7' := Lib.hid c7'
    refine wp_region_ext_lit (by kernel_rfl) (by kernel_rfl) ?_
    repeat (any_goals (first | go_big_quiet_step ((first | (go_at_call 10; with_reducible exact Calls.ext (c6'.out _ (Subtype.property _))) | (go_at_call 10; with_reducible exact Calls.ext (c7'.out _ (Subtype.property _))))) | quiet_step ((first | (go_at_call 10; with_reducible exact Calls.ext (c6'.out _ (Subtype.property _))) | (go_at_call 10; with_reducible exact Calls.ext (c7'.out _ (Subtype.property _)))))))
    all_goals (refine wpQuiet_nil ?_; rintro w8 ⟨⟨w10, hb⟩, rfl⟩)
    all_goals go_wp2_with fail
    all_goals go_returns
    all_goals exact ⟨rfl, hw3.trans ((hw.trans (hb.mono hw.size)).mono hw3.size)⟩
  · go_upto_region 10 with (first | (go_at_call 7; ((with_reducible refine (c1.out _ hw).mono ?_); rintro e w1 ⟨rfl, hb⟩; have hw := hw.trans (hb.mono hw.size); have A := A.below hb; have a_0 := A.box1; have hsA := World.block_lt_of_cell? _ _ a_0; dsimp only at hsA; have B := B.below hb; have b_0 := B.box1; have hsB := World.block_lt_of_cell? _ _ b_0; dsimp only at hsB; clear hb)) | (go_at_call 7; ((with_reducible refine (c2.out _ hw).mono ?_); rintro e w1 ⟨rfl, hb⟩; have hw := hw.trans (hb.mono hw.size); have A := A.below hb; have a_0 := A.box1; have hsA := World.block_lt_of_cell? _ _ a_0; dsimp only at hsA; have B := B.below hb; have b_0 := B.box1; have hsB := World.block_lt_of_cell? _ _ b_0; dsimp only at hsB; clear hb)) | (go_at_call 8; ((with_reducible refine (c3.out _ hw).mono ?_); rintro e w1 ⟨rfl, hb⟩; have hw := hw.trans (hb.mono hw.size); have A := A.below hb; have a_0 := A.box1; have hsA := World.block_lt_of_cell? _ _ a_0; dsimp only at hsA; have B := B.below hb; have b_0 := B.box1; have hsB := World.block_lt_of_cell? _ _ b_0; dsimp only at hsB; clear hb)) | (go_at_call 9; ((with_reducible refine (c4.out _ hw).mono ?_); rintro e w1 ⟨rfl, hb⟩; have hw := hw.trans (hb.mono hw.size); have A := A.below hb; have a_0 := A.box1; have hsA := World.block_lt_of_cell? _ _ a_0; dsimp only at hsA; have B := B.below hb; have b_0 := B.box1; have hsB := World.block_lt_of_cell? _ _ b_0; dsimp only at hsB; clear hb)) | (go_at_call 9; ((with_reducible refine (c5.out _ hw).mono ?_); rintro e w1 ⟨rfl, hb⟩; have hw := hw.trans (hb.mono hw.size); have A := A.below hb; have a_0 := A.box1; have hsA := World.block_lt_of_cell? _ _ a_0; dsimp only at hsA; have B := B.below hb; have b_0 := B.box1; have hsB := World.block_lt_of_cell? _ _ b_0; dsimp only at hsB; clear hb)))
    obtain ⟨w9, hw9⟩ : ∃ W, W = w1 := ⟨_, rfl⟩
    subst hw9
    have c6' := fun W (hW : Below w9.heap.size w9 W) => c6.out W (hw.trans (hW.mono hw.size))
    have c7' := fun W (hW : Below w9.heap.size w9 W) => c7.out W (hw.trans (hW.mono hw.size))
    replace c6' := Lib.hid c6'; replace c7' := Lib.hid c7'
    refine wp_region_ext_lit (by kernel_rfl) (by kernel_rfl) ?_
    repeat (any_goals (first | go_big_quiet_step ((first | (go_at_call 10; with_reducible exact Calls.ext (c6'.out _ (Subtype.property _))) | (go_at_call 10; with_reducible exact Calls.ext (c7'.out _ (Subtype.property _))))) | quiet_step ((first | (go_at_call 10; with_reducible exact Calls.ext (c6'.out _ (Subtype.property _))) | (go_at_call 10; with_reducible exact Calls.ext (c7'.out _ (Subtype.property _)))))))
    all_goals (refine wpQuiet_nil ?_; rintro w8 ⟨⟨w10, hb⟩, rfl⟩)
    all_goals go_wp2_with fail
    all_goals go_returns
    all_goals exact ⟨rfl, hw3.trans ((hw.trans (hb.mono hw.size)).mono hw3.size)⟩
end fnDataLess
end Go.Proofs.Ytpblhonnknmjjaa
