/- The law FnDataLess: of two different values exactly one comes before the other. -/
import Derived.Test.YtpblhonnknmjjaaDL3
import Derived.Test.YtpblhonnknmjjaaLtLaw2
import Derived.Test.YtpblhonnknmjjaaLess2
namespace Go.Proofs.Ytpblhonnknmjjaa
open Go.RowKit
set_option linter.unusedVariables false
set_option linter.unusedSimpArgs false
attribute [local go_sem] Ext.cell

theorem toList_ne {s t : ByteArray} : (s.toList == t.toList) = decide (s = t) := by
  by_cases h : s = t
  · subst h; simp
  · rw [decide_eq_false h]
    simpa [toList_eq] using h
namespace fnDataLess
set_option maxRecDepth 100000 in
set_option maxHeartbeats 16000000 in
theorem law (u : Value) (bs : List UInt8) (w : World) (hx : Sl ByteR 1 0 w u bs) :
    Calls Try.prog 3 #[u] w fun en w' => en = .returned (.bool true) ∧ Below w.heap.size w w' := by
  by_cases hlen : bs.length ≤ 1048576
  rotate_left
  · obtain ⟨ua, uc, rfl⟩ := hx.form
    have hd : decide (1048576 < bs.length) = true := decide_eq_true (by omega)
    go_enter Try.func3, Try.ntmps3
    go_wp2_with fail
    go_returns
    exact ⟨rfl, Below.refl _ _⟩
  have hd : decide (1048576 < bs.length) = false := decide_eq_false (by omega)
  have cD := drawDataLess_c w u bs hx hlen
  obtain ⟨ua, uc, rfl⟩ := hx.form
  clear hx
  replace cD := Lib.hid cD
  go_enter Try.func3, Try.ntmps3
  go_upto_region 4 with (go_at_call 6; (with_reducible refine (cD.out).mono ?_); rintro e w1 ⟨va, vb, la, lb, rfl, SA, SB, da, db, hw1⟩; obtain ⟨xa, ca, rfl⟩ := SA.form; obtain ⟨xb, cb, rfl⟩ := SB.form)
  obtain ⟨w2, hW2⟩ : ∃ W, W = w1.alloc (.cells #[.slice xa la.length ca] 25) := ⟨_, rfl⟩
  obtain ⟨w3, hW3⟩ : ∃ W, W = w2.alloc (.cells #[.slice xb lb.length cb] 25) := ⟨_, rfl⟩
  have hs2 : w2.heap.size = w1.heap.size + 1 := by rw [hW2]; simp
  rw [← hW2, ← hW3, ← hs2]
  have hb2 : Below w1.heap.size w1 w2 := by rw [hW2]; go_grown
  have hb3 : Below w2.heap.size w2 w3 := by rw [hW3]; go_grown
  have A : RowAt w3 w1.heap.size 0 [.slice xa la.length ca] := RowAt.below (by rw [hW2]; exact RowAt.box w1 #[_] _) hb3
  have B : RowAt w3 w2.heap.size 0 [.slice xb lb.length cb] := by rw [hW3]; exact RowAt.box w2 #[_] _
  have hw3 : Below w.heap.size w w3 := (hw1.trans (hb2.mono hw1.size)).trans (hb3.mono (by have := hw1.size; omega))
  have SA3 := (SA.below GDNode.good hb2).below GDNode.good hb3
  have SB3 := (SB.below GDNode.good hb2).below GDNode.good hb3
  clear hW2 hW3 hs2 hb2 hb3 SA SB hw1 cD
  generalize w1.heap.size = bP at *
  generalize w2.heap.size = bQ at *
  have RA : GData.R w.heap.size w3 [.slice xa la.length ca] ⟨la⟩ := ⟨_, rfl, trivial, SA3⟩
  have RB : GData.R w.heap.size w3 [.slice xb lb.length cb] ⟨lb⟩ := ⟨_, rfl, trivial, SB3⟩
  have hba := da.bulk
  have hbb := db.bulk
  have hla : (GData.mk la).nodes.length ≤ 1152921504606846976 := by have := da.2.1; show la.length ≤ _; omega
  have hlb : (GData.mk lb).nodes.length ≤ 1152921504606846976 := by have := db.2.1; show lb.length ≤ _; omega
  have c1 := fun W (hW : Below w3.heap.size w3 W) => impl_DataLess_c ⟨la⟩ _ _ ⟨lb⟩ _ _ hba hbb W (GData.good.below RA hW) (GData.good.below RB hW)
  have c2 := fun W (hW : Below w3.heap.size w3 W) => impl_DataLess_c ⟨lb⟩ _ _ ⟨la⟩ _ _ hbb hba W (GData.good.below RB hW) (GData.good.below RA hW)
  have c3 := fun W (hW : Below w3.heap.size w3 W) => spec_DataLess_c ⟨la⟩ _ _ ⟨lb⟩ _ _ hba hbb W (GData.good.below RA hW) (GData.good.below RB hW)
  have c4 := fun W (hW : Below w3.heap.size w3 W) => specDataOk_c ⟨la⟩ hla _ _ W (GData.good.below RA hW)
  have c5 := fun W (hW : Below w3.heap.size w3 W) => specDataOk_c ⟨lb⟩ hlb _ _ W (GData.good.below RB hW)
  have c6 := fun W (hW : Below w3.heap.size w3 W) => impl_DataText_c ⟨la⟩ _ _ hba W (GData.good.below RA hW)
  have c7 := fun W (hW : Below w3.heap.size w3 W) => impl_DataText_c ⟨lb⟩ _ _ hbb W (GData.good.below RB hW)
  have hlaw := fun ha hb => less_law (a := ⟨la⟩) (b := ⟨lb⟩) ha hb
  have hno : (dataOk ⟨la⟩ = false ∨ dataOk ⟨lb⟩ = false) → dataLess ⟨la⟩ ⟨lb⟩ = false ∧ dataLess ⟨lb⟩ ⟨la⟩ = false := by
    intro h
    unfold dataLess
    rcases h with h | h <;> rw [h] <;> simp
  generalize dataLess ⟨la⟩ ⟨lb⟩ = x at *
  generalize dataLess ⟨lb⟩ ⟨la⟩ = y at *
  generalize dataOk ⟨la⟩ = oa at *
  generalize dataOk ⟨lb⟩ = ob at *
  generalize dataText ⟨la⟩ = ta at *
  generalize dataText ⟨lb⟩ = tb at *
  generalize la.length = na at *
  generalize lb.length = nb at *
  clear RA RB SA3 SB3 hba hbb hla hlb da db
  have hw : Below w3.heap.size w3 w3 := Below.refl _ _
  have hways : (x = false ∧ y = false ∧ (oa = false ∨ ob = false)) ∨ (oa = true ∧ ob = true ∧ x = false ∧ y = false ∧ (ta.toList == tb.toList) = true) ∨ (oa = true ∧ ob = true ∧ x = true ∧ y = false ∧ (ta.toList == tb.toList) = false) ∨ (oa = true ∧ ob = true ∧ x = false ∧ y = true ∧ (ta.toList == tb.toList) = false) := by
    cases oa
    · exact .inl ⟨(hno (.inl rfl)).1, (hno (.inl rfl)).2, .inl rfl⟩
    · cases ob
      · exact .inl ⟨(hno (.inr rfl)).1, (hno (.inr rfl)).2, .inr rfl⟩
      · rcases hlaw rfl rfl with ⟨h1, h2, h3⟩ | ⟨h1, h2⟩
        · exact .inr (.inl ⟨rfl, rfl, h2, h3, by rw [toList_ne]; exact decide_eq_true h1⟩)
        · have h3 : (ta.toList == tb.toList) = false := by rw [toList_ne]; exact decide_eq_false h1
          cases x
          · exact .inr (.inr (.inr ⟨rfl, rfl, rfl, h2, h3⟩))
          · exact .inr (.inr (.inl ⟨rfl, rfl, rfl, h2, h3⟩))
  clear hlaw hno
  replace c1 := Lib.hid c1; replace c2 := Lib.hid c2; replace c3 := Lib.hid c3; replace c4 := Lib.hid c4; replace c5 := Lib.hid c5; replace c6 := Lib.hid c6; replace c7 := Lib.hid c7
  have a_0 := A.box1; have hsA := World.block_lt_of_cell? _ _ a_0; dsimp only at hsA; have b_0 := B.box1; have hsB := World.block_lt_of_cell? _ _ b_0; dsimp only at hsB
  rcases hways with ⟨rfl, rfl, ho⟩ | ⟨rfl, rfl, rfl, rfl, ht⟩ | ⟨rfl, rfl, rfl, rfl, ht⟩ | ⟨rfl, rfl, rfl, rfl, ht⟩
  · rcases ho with rfl | rfl
    · go_wp2_with (first | (go_at_call 7; ((with_reducible refine (c1.out _ hw).mono ?_); rintro e w1 ⟨rfl, hb⟩; have hw := hw.trans (hb.mono hw.size); have A := A.below hb; have a_0 := A.box1; have hsA := World.block_lt_of_cell? _ _ a_0; dsimp only at hsA; have B := B.below hb; have b_0 := B.box1; have hsB := World.block_lt_of_cell? _ _ b_0; dsimp only at hsB; clear hb)) | (go_at_call 7; ((with_reducible refine (c2.out _ hw).mono ?_); rintro e w1 ⟨rfl, hb⟩; have hw := hw.trans (hb.mono hw.size); have A := A.below hb; have a_0 := A.box1; have hsA := World.block_lt_of_cell? _ _ a_0; dsimp only at hsA; have B := B.below hb; have b_0 := B.box1; have hsB := World.block_lt_of_cell? _ _ b_0; dsimp only at hsB; clear hb)) | (go_at_call 8; ((with_reducible refine (c3.out _ hw).mono ?_); rintro e w1 ⟨rfl, hb⟩; have hw := hw.trans (hb.mono hw.size); have A := A.below hb; have a_0 := A.box1; have hsA := World.block_lt_of_cell? _ _ a_0; dsimp only at hsA; have B := B.below hb; have b_0 := B.box1; have hsB := World.block_lt_of_cell? _ _ b_0; dsimp only at hsB; clear hb)) | (go_at_call 9; ((with_reducible refine (c4.out _ hw).mono ?_); rintro e w1 ⟨rfl, hb⟩; have hw := hw.trans (hb.mono hw.size); have A := A.below hb; have a_0 := A.box1; have hsA := World.block_lt_of_cell? _ _ a_0; dsimp only at hsA; have B := B.below hb; have b_0 := B.box1; have hsB := World.block_lt_of_cell? _ _ b_0; dsimp only at hsB; clear hb)) | (go_at_call 9; ((with_reducible refine (c5.out _ hw).mono ?_); rintro e w1 ⟨rfl, hb⟩; have hw := hw.trans (hb.mono hw.size); have A := A.below hb; have a_0 := A.box1; have hsA := World.block_lt_of_cell? _ _ a_0; dsimp only at hsA; have B := B.below hb; have b_0 := B.box1; have hsB := World.block_lt_of_cell? _ _ b_0; dsimp only at hsB; clear hb)))
      go_returns
      exact ⟨rfl, hw3.trans (hw.mono hw3.size)⟩
    · cases oa
      all_goals
        go_wp2_with (first | (go_at_call 7; ((with_reducible refine (c1.out _ hw).mono ?_); rintro e w1 ⟨rfl, hb⟩; have hw := hw.trans (hb.mono hw.size); have A := A.below hb; have a_0 := A.box1; have hsA := World.block_lt_of_cell? _ _ a_0; dsimp only at hsA; have B := B.below hb; have b_0 := B.box1; have hsB := World.block_lt_of_cell? _ _ b_0; dsimp only at hsB; clear hb)) | (go_at_call 7; ((with_reducible refine (c2.out _ hw).mono ?_); rintro e w1 ⟨rfl, hb⟩; have hw := hw.trans (hb.mono hw.size); have A := A.below hb; have a_0 := A.box1; have hsA := World.block_lt_of_cell? _ _ a_0; dsimp only at hsA; have B := B.below hb; have b_0 := B.box1; have hsB := World.block_lt_of_cell? _ _ b_0; dsimp only at hsB; clear hb)) | (go_at_call 8; ((with_reducible refine (c3.out _ hw).mono ?_); rintro e w1 ⟨rfl, hb⟩; have hw := hw.trans (hb.mono hw.size); have A := A.below hb; have a_0 := A.box1; have hsA := World.block_lt_of_cell? _ _ a_0; dsimp only at hsA; have B := B.below hb; have b_0 := B.box1; have hsB := World.block_lt_of_cell? _ _ b_0; dsimp only at hsB; clear hb)) | (go_at_call 9; ((with_reducible refine (c4.out _ hw).mono ?_); rintro e w1 ⟨rfl, hb⟩; have hw := hw.trans (hb.mono hw.size); have A := A.below hb; have a_0 := A.box1; have hsA := World.block_lt_of_cell? _ _ a_0; dsimp only at hsA; have B := B.below hb; have b_0 := B.box1; have hsB := World.block_lt_of_cell? _ _ b_0; dsimp only at hsB; clear hb)) | (go_at_call 9; ((with_reducible refine (c5.out _ hw).mono ?_); rintro e w1 ⟨rfl, hb⟩; have hw := hw.trans (hb.mono hw.size); have A := A.below hb; have a_0 := A.box1; have hsA := World.block_lt_of_cell? _ _ a_0; dsimp only at hsA; have B := B.below hb; have b_0 := B.box1; have hsB := World.block_lt_of_cell? _ _ b_0; dsimp only at hsB; clear hb)))
        go_returns
        exact ⟨rfl, hw3.trans (hw.mono hw3.size)⟩
  · go_upto_region 10 with (first | (go_at_call 7; ((with_reducible refine (c1.out _ hw).mono ?_); rintro e w1 ⟨rfl, hb⟩; have hw := hw.trans (hb.mono hw.size); have A := A.below hb; have a_0 := A.box1; have hsA := World.block_lt_of_cell? _ _ a_0; dsimp only at hsA; have B := B.below hb; have b_0 := B.box1; have hsB := World.block_lt_of_cell? _ _ b_0; dsimp only at hsB; clear hb)) | (go_at_call 7; ((with_reducible refine (c2.out _ hw).mono ?_); rintro e w1 ⟨rfl, hb⟩; have hw := hw.trans (hb.mono hw.size); have A := A.below hb; have a_0 := A.box1; have hsA := World.block_lt_of_cell? _ _ a_0; dsimp only at hsA; have B := B.below hb; have b_0 := B.box1; have hsB := World.block_lt_of_cell? _ _ b_0; dsimp only at hsB; clear hb)) | (go_at_call 8; ((with_reducible refine (c3.out _ hw).mono ?_); rintro e w1 ⟨rfl, hb⟩; have hw := hw.trans (hb.mono hw.size); have A := A.below hb; have a_0 := A.box1; have hsA := World.block_lt_of_cell? _ _ a_0; dsimp only at hsA; have B := B.below hb; have b_0 := B.box1; have hsB := World.block_lt_of_cell? _ _ b_0; dsimp only at hsB; clear hb)) | (go_at_call 9; ((with_reducible refine (c4.out _ hw).mono ?_); rintro e w1 ⟨rfl, hb⟩; have hw := hw.trans (hb.mono hw.size); have A := A.below hb; have a_0 := A.box1; have hsA := World.block_lt_of_cell? _ _ a_0; dsimp only at hsA; have B := B.below hb; have b_0 := B.box1; have hsB := World.block_lt_of_cell? _ _ b_0; dsimp only at hsB; clear hb)) | (go_at_call 9; ((with_reducible refine (c5.out _ hw).mono ?_); rintro e w1 ⟨rfl, hb⟩; have hw := hw.trans (hb.mono hw.size); have A := A.below hb; have a_0 := A.box1; have hsA := World.block_lt_of_cell? _ _ a_0; dsimp only at hsA; have B := B.below hb; have b_0 := B.box1; have hsB := World.block_lt_of_cell? _ _ b_0; dsimp only at hsB; clear hb)))
    obtain ⟨w9, hw9⟩ : ∃ W, W = w1 := ⟨_, rfl⟩
    subst hw9
    have c6' := fun W (hW : Below w9.heap.size w9 W) => c6.out W (hw.trans (hW.mono hw.size))
    have c7' := fun W (hW : Below w9.heap.size w9 W) => c7.out W (hw.trans (hW.mono hw.size))
    replace c6' := Lib.hid c6'; replace c7' := Lib.hid c7'
    refine wp_region_ext_lit (by kernel_rfl) (by kernel_rfl) ?_
    repeat (any_goals (first | go_big_quiet_step ((first | (go_at_call 10; with_reducible exact Calls.ext (c6'.out _ (Subtype.property _))) | (go_at_call 10; with_reducible exact Calls.ext (c7'.out _ (Subtype.property _))))) | quiet_step ((first | (go_at_call 10; with_reducible exact Calls.ext (c6'.out _ (Subtype.property _))) | (go_at_call 10; with_reducible exact Calls.ext (c7'.out _ (Subtype.property _)))))))
    all_goals (refine wpQuiet_nil ?_; rintro w8 ⟨⟨w10, hb⟩, rfl⟩)
    all_goals go_wp2_with fail
    all_goals go_returns
    all_goals exact ⟨rfl, hw3.trans ((hw.trans (hb.mono hw.size)).mono hw3.size)⟩
  · go_upto_region 10 with (first | (go_at_call 7; ((with_reducible refine (c1.out _ hw).mono ?_); rintro e w1 ⟨rfl, hb⟩; have hw := hw.trans (hb.mono hw.size); have A := A.below hb; have a_0 := A.box1; have hsA := World.block_lt_of_cell? _ _ a_0; dsimp only at hsA; have B := B.below hb; have b_0 := B.box1; have hsB := World.block_lt_of_cell? _ _ b_0; dsimp only at hsB; clear hb)) | (go_at_call 7; ((with_reducible refine (c2.out _ hw).mono ?_); rintro e w1 ⟨rfl, hb⟩; have hw := hw.trans (hb.mono hw.size); have A := A.below hb; have a_0 := A.box1; have hsA := World.block_lt_of_cell? _ _ a_0; dsimp only at hsA; have B := B.below hb; have b_0 := B.box1; have hsB := World.block_lt_of_cell? _ _ b_0; dsimp only at hsB; clear hb)) | (go_at_call 8; ((with_reducible refine (c3.out _ hw).mono ?_); rintro e w1 ⟨rfl, hb⟩; have hw := hw.trans (hb.mono hw.size); have A := A.below hb; have a_0 := A.box1; have hsA := World.block_lt_of_cell? _ _ a_0; dsimp only at hsA; have B := B.below hb; have b_0 := B.box1; have hsB := World.block_lt_of_cell? _ _ b_0; dsimp only at hsB; clear hb)) | (go_at_call 9; ((with_reducible refine (c4.out _ hw).mono ?_); rintro e w1 ⟨rfl, hb⟩; have hw := hw.trans (hb.mono hw.size); have A := A.below hb; have a_0 := A.box1; have hsA := World.block_lt_of_cell? _ _ a_0; dsimp only at hsA; have B := B.below hb; have b_0 := B.box1; have hsB := World.block_lt_of_cell? _ _ b_0; dsimp only at hsB; clear hb)) | (go_at_call 9; ((with_reducible refine (c5.out _ hw).mono ?_); rintro e w1 ⟨rfl, hb⟩; have hw := hw.trans (hb.mono hw.size); have A := A.below hb; have a_0 := A.box1; have hsA := World.block_lt_of_cell? _ _ a_0; dsimp only at hsA; have B := B.below hb; have b_0 := B.box1; have hsB := World.block_lt_of_cell? _ _ b_0; dsimp only at hsB; clear hb)))
    obtain ⟨w9, hw9⟩ : ∃ W, W = w1 := ⟨_, rfl⟩
    subst hw9
    have c6' := fun W (hW : Below w9.heap.size w9 W) => c6.out W (hw.trans (hW.mono hw.size))
    have c7' := fun W (hW : Below w9.heap.size w9 W) => c7.out W (hw.trans (hW.mono hw.size))
    replace c6' := Lib.hid c6'; replace c7' := Lib.hid c7'
    refine wp_region_ext_lit (by kernel_rfl) (by kernel_rfl) ?_
    repeat (any_goals (first | go_big_quiet_step ((first | (go_at_call 10; with_reducible exact Calls.ext (c6'.out _ (Subtype.property _))) | (go_at_call 10; with_reducible exact Calls.ext (c7'.out _ (Subtype.property _))))) | quiet_step ((first | (go_at_call 10; with_reducible exact Calls.ext (c6'.out _ (Subtype.property _))) | (go_at_call 10; with_reducible exact Calls.ext (c7'.out _ (Subtype.property _)))))))
    all_goals (refine wpQuiet_nil ?_; rintro w8 ⟨⟨w10, hb⟩, rfl⟩)
    all_goals go_wp2_with fail
    all_goals go_returns
    all_goals exact ⟨rfl, hw3.trans ((hw.trans (hb.mono hw.size)).mono hw3.size)⟩
  · go_upto_region 10 with (first | (go_at_call 7; ((with_reducible refine (c1.out _ hw).mono ?_); rintro e w1 ⟨rfl, hb⟩; have hw := hw.trans (hb.mono hw.size); have A := A.below hb; have a_0 := A.box1; have hsA := World.block_lt_of_cell? _ _ a_0; dsimp only at hsA; have B := B.below hb; have b_0 := B.box1; have hsB := World.block_lt_of_cell? _ _ b_0; dsimp only at hsB; clear hb)) | (go_at_call 7; ((with_reducible refine (c2.out _ hw).mono ?_); rintro e w1 ⟨rfl, hb⟩; have hw := hw.trans (hb.mono hw.size); have A := A.below hb; have a_0 := A.box1; have hsA := World.block_lt_of_cell? _ _ a_0; dsimp only at hsA; have B := B.below hb; have b_0 := B.box1; have hsB := World.block_lt_of_cell? _ _ b_0; dsimp only at hsB; clear hb)) | (go_at_call 8; ((with_reducible refine (c3.out _ hw).mono ?_); rintro e w1 ⟨rfl, hb⟩; have hw := hw.trans (hb.mono hw.size); have A := A.below hb; have a_0 := A.box1; have hsA := World.block_lt_of_cell? _ _ a_0; dsimp only at hsA; have B := B.below hb; have b_0 := B.box1; have hsB := World.block_lt_of_cell? _ _ b_0; dsimp only at hsB; clear hb)) | (go_at_call 9; ((with_reducible refine (c4.out _ hw).mono ?_); rintro e w1 ⟨rfl, hb⟩; have hw := hw.trans (hb.mono hw.size); have A := A.below hb; have a_0 := A.box1; have hsA := World.block_lt_of_cell? _ _ a_0; dsimp only at hsA; have B := B.below hb; have b_0 := B.box1; have hsB := World.block_lt_of_cell? _ _ b_0; dsimp only at hsB; clear hb)) | (go_at_call 9; ((with_reducible refine (c5.out _ hw).mono ?_); rintro e w1 ⟨rfl, hb⟩; have hw := hw.trans (hb.mono hw.size); have A := A.below hb; have a_0 := A.box1; have hsA := World.block_lt_of_cell? _ _ a_0; dsimp only at hsA; have B := B.below hb; have b_0 := B.box1; have hsB := World.block_lt_of_cell? _ _ b_0; dsimp only at hsB; clear hb)))
    obtain ⟨w9, hw9⟩ : ∃ W, W = w1 := ⟨_, rfl⟩
    subst hw9
    have c6' := fun W (hW : Below w9.heap.size w9 W) => c6.out W (hw.trans (hW.mono hw.size))
    have c7' := fun W (hW : Below w9.heap.size w9 W) => c7.out W (hw.trans (hW.mono hw.size))
    replace c6' := Lib.hid c6'; replace c7' := Lib.hid c7'
    refine wp_region_ext_lit (by kernel_rfl) (by kernel_rfl) ?_
    repeat (any_goals (first | go_big_quiet_step ((first | (go_at_call 10; with_reducible exact Calls.ext (c6'.out _ (Subtype.property _))) | (go_at_call 10; with_reducible exact Calls.ext (c7'.out _ (Subtype.property _))))) | quiet_step ((first | (go_at_call 10; with_reducible exact Calls.ext (c6'.out _ (Subtype.property _))) | (go_at_call 10; with_reducible exact Calls.ext (c7'.out _ (Subtype.property _)))))))
    all_goals (refine wpQuiet_nil ?_; rintro w8 ⟨⟨w10, hb⟩, rfl⟩)
    all_goals go_wp2_with fail
    all_goals go_returns
    all_goals exact ⟨rfl, hw3.trans ((hw.trans (hb.mono hw.size)).mono hw3.size)⟩
end fnDataLess
end Go.Proofs.Ytpblhonnknmjjaa
