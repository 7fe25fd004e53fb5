/- Parts of the proof, merged: Fd, Open. -/
import Derived.Deep.Slices
import Derived.OpenShut
import Derived.Test.YtpblhonnknmjjaaFd026
/- The draw of FnData, and the law's walk. -/
namespace Go.Proofs.Ytpblhonnknmjjaa
open Go.RowKit
set_option linter.unusedVariables false
set_option linter.unusedSimpArgs false
attribute [local go_sem] Ext.cell

theorem sm_bulk {l : List GDNode} (h : SmD l) : bulkS GDNode.bulk l ≤ 4000 := by
  have h1 : ∀ l : List GDNode, (∀ x ∈ l, SmN x) → bulkS GDNode.bulk l ≤ (l.length : Int) * 20 := by
    intro l
    induction l with
    | nil => intro _; simp [bulkS]
    | cons c l ih =>
      intro hl
      have h2 := ih (fun c hc => hl c (List.mem_cons_of_mem _ hc))
      obtain ⟨h3, h4⟩ := hl c (by simp)
      have h5 : GDNode.bulk c ≤ 19 := by
        unfold GDNode.bulk
        omega
      simp only [bulkS, List.length_cons, List.map_cons, List.sum_cons] at h2 ⊢
      omega
  have h2 := h1 l h.2.2
  have := h.2.1
  omega
theorem dataText_len {l : List GDNode} {r : List Value} {lo : Nat} {w : World} (hr : GData.R lo w r ⟨l⟩) (h : SmD l) (hok : dataOk ⟨l⟩ = true) : (dataText ⟨l⟩).size ≤ 1048576 := by
  obtain ⟨hU, h0, hL⟩ := dataOk_up hok
  have htok := treeOf_tok l hU (dataOk_nodes hok) (data_wf hr) l.length 0 h0 (by omega)
  have h1 := textT_len _ _ htok
  have hok' := hok
  unfold dataOk at hok'
  simp only [Bool.and_eq_true, decide_eq_true_eq] at hok'
  obtain ⟨_, h2, _⟩ := hok'
  dsimp only at *
  rw [show kidsAt l = (fun i => (l[i]?.map (·.kids)).getD []) from rfl, ← ends_eq] at h2
  have h3 := wt_ends l (l.length + 1) 0 l.length (by omega)
  rw [h2, Int.toNat_natCast] at h3
  have h4 := sum_pre l
  have h5 : pre l l.length = (l.map fun x => 4 * x.s.size + 30).sum := by unfold pre; rw [List.take_length]
  rw [h5] at h3
  have h6 := sm_bulk h
  have h7 := h.2.1
  unfold dataText
  rw [if_pos hok]
  dsimp only
  omega
def DtPost (w : World) (e : Ending) (w' : World) : Prop :=
  ∃ (u : Value) (l : List GDNode), e = .returned (.agg #[u]) ∧ Sl GDNode.R 4 w.heap.size w' u l ∧ SmD l ∧ Below w.heap.size w w'
set_option maxRecDepth 100000 in
set_option maxHeartbeats 8000000 in
theorem drawDataText_c (w : World) (u : Value) (bs : List UInt8) (hu : Sl ByteR 1 0 w u bs) (hlen : bs.length ≤ 1048576) :
    Calls Try.prog 11 #[u] w (DtPost w) := by
  have Hu := hu
  obtain ⟨ua, uc, rfl⟩ := hu.form
  clear hu
  go_enter Try.func11, Try.ntmps11
  go_upto_region 1 with fail
  have E : RowAt (w.alloc (.cells #[.slice none 0 0] 25)) (w.heap.size) 0 [.slice none 0 0] := RowAt.box w #[.slice none 0 0] 25
  have EW : Wr (w.alloc (.cells #[.slice none 0 0] 25)) (w.heap.size) 0 1 := Wr.box w #[.slice none 0 0] 25
  have hw : Below w.heap.size w (w.alloc (.cells #[.slice none 0 0] 25)) := by go_grown
  generalize (w.alloc (.cells #[.slice none 0 0] 25)) = w0 at *
  have hs0 := hw.size
  have hsE := World.block_lt_of_cell? _ _ E.box1; dsimp only at hsE
  replace Hu := Lib.hid Hu
  go_upto_region 2 with (go_at_call 19; (with_reducible refine (l01New_c w w0 _ bs Hu.out hlen hw).mono ?_); rintro e w1 ⟨b, rfl, hb0, C1, hb1⟩)
  have hbl := C1.lt
  have hz1 := hb1.size
  have K01 : Kept (· = b) w0 w1 := Kept.below hb1
  go_upto_region 3 with (go_at_call 20; (with_reducible refine (l21Data_c w _ b C1).mono ?_); rintro e w2 ⟨va, la, rfl, SA, a1, a2, a3, D2⟩; obtain ⟨xa, ca, rfl⟩ := SA.form)
  obtain ⟨w3, hW3⟩ : ∃ W, W = w2.alloc (.cells #[.slice xa la.length ca] 25) := ⟨_, rfl⟩
  rw [← hW3]
  have hb3 : Below w2.heap.size w2 w3 := by rw [hW3]; go_grown
  have RA : RowAt w3 w2.heap.size 0 [.slice xa la.length ca] := by rw [hW3]; exact RowAt.box w2 #[_] _
  have D3 := D2.after hb3
  have SA3 := SA.below GDNode.good hb3
  have hz2 := D2.size
  have hz3 : w2.heap.size < w3.heap.size := World.block_lt_of_cell? _ _ RA.box1
  obtain ⟨bA, hbA⟩ : ∃ x, x = w2.heap.size := ⟨_, rfl⟩
  rw [← hbA] at RA hz3 ⊢
  have hbA2 : w1.heap.size ≤ bA := by omega
  clear hW3 hb3 D2 SA hbA
  have K03 : Kept (· = b) w0 w3 := K01.trans hz1 D3.kept
  have E3 := E.kept K03 (by omega)
  have EW3 := EW.kept K03 (by omega)
  have hB3 : Below w.heap.size w w3 := D3.cur.below
  have d_0 := RA.box1
  have e_0 := E3.box1
  have ef_0 := EW3.frz 0 (by omega)
  have hbl3 := World.block_lt_of_cell? _ _ e_0; dsimp only at hbl3
  have ne1 : ¬ w.heap.size = bA := by omega
  have hfin : DtPost w (.returned (.agg #[.slice xa la.length ca])) (w3.setCell ⟨w.heap.size, 0, none⟩ (.slice xa la.length ca)) :=
    ⟨_, la, rfl, (SA3.agree GDNode.good (Agree.setCell (Agree.refl _ _) (p := ⟨w.heap.size, 0, none⟩) (by show w.heap.size < w1.heap.size; omega) _)).mono GDNode.good (by omega), ⟨a1, a2, a3⟩, hB3.setCell (p := ⟨w.heap.size, 0, none⟩) (Nat.le_refl _) _⟩
  replace hfin := Lib.hid hfin
  clear E EW E3 EW3 RA SA3 a3
  generalize la.length = n at *
  go_wp2_with fail
  have p_0 := cell_setCell_eq w3 w.heap.size 0 (.slice xa n ca) e_0
  refine bodyPost_ret (v := .agg #[.slice xa n ca]) (by simp [results, Try.results11, go_sem, p_0]) rfl ?_
  exact hfin.out
namespace fnData
set_option maxRecDepth 100000 in
set_option maxHeartbeats 16000000 in
theorem law (u : Value) (bs : List UInt8) (w : World) (hx : Sl ByteR 1 0 w u bs) :
    Calls Try.prog 4 #[u] w fun en w' => en = .returned (.bool true) ∧ Below w.heap.size w w' := by
  by_cases hlen : bs.length ≤ 1048576
  rotate_left
  · obtain ⟨ua, uc, rfl⟩ := hx.form
    have hd : decide (1048576 < bs.length) = true := decide_eq_true (by omega)
    go_enter Try.func4, Try.ntmps4
    go_wp2_with fail
    go_returns
    exact ⟨rfl, Below.refl _ _⟩
  have hd : decide (1048576 < bs.length) = false := decide_eq_false (by omega)
  have cD := drawDataText_c w u bs hx hlen
  obtain ⟨ua, uc, rfl⟩ := hx.form
  clear hx
  replace cD := Lib.hid cD
  go_enter Try.func4, Try.ntmps4
  go_upto_region 4 with (go_at_call 11; (with_reducible refine (cD.out).mono ?_); rintro e w1 ⟨va, la, rfl, SA, da, hw1⟩; obtain ⟨xa, ca, rfl⟩ := SA.form)
  obtain ⟨w2, hW2⟩ : ∃ W, W = w1.alloc (.cells #[.slice xa la.length ca] 25) := ⟨_, rfl⟩
  rw [← hW2]
  have hb2 : Below w1.heap.size w1 w2 := by rw [hW2]; go_grown
  have A : RowAt w2 w1.heap.size 0 [.slice xa la.length ca] := by rw [hW2]; exact RowAt.box w1 #[_] _
  have hw2 : Below w.heap.size w w2 := hw1.trans (hb2.mono hw1.size)
  have SA2 := SA.below GDNode.good hb2
  have hz1 := hw1.size
  obtain ⟨bP, hbP⟩ : ∃ x, x = w1.heap.size := ⟨_, rfl⟩
  rw [← hbP] at A ⊢
  have hbP2 : bP < w2.heap.size := World.block_lt_of_cell? _ _ A.box1
  clear hW2 hb2 SA hw1 cD hbP
  have RA : GData.R w.heap.size w2 [.slice xa la.length ca] ⟨la⟩ := ⟨_, rfl, trivial, SA2⟩
  have hba := da.bulk
  have c1 := fun W (hW : Below w2.heap.size w2 W) => impl_DataText_c ⟨la⟩ _ _ hba W (GData.good.below RA hW)
  have c2 := fun W (hW : Below w2.heap.size w2 W) => spec_DataText_c ⟨la⟩ _ _ hba W (GData.good.below RA hW)
  have c3 := fun W (hW : Below w2.heap.size w2 W) => impl_DataDeep_c ⟨la⟩ _ _ hba W (GData.good.below RA hW)
  have hlaw := fd_law ⟨la⟩
  have hsm : (dataText ⟨la⟩).size ≤ 1048576 := by
    cases hok : dataOk ⟨la⟩ with
    | false => rw [(data_none hok).1]; exact Nat.zero_le _
    | true => exact dataText_len RA da hok
  have cI := fun W => impl_TextData_c (dataText ⟨la⟩) hsm W
  have hless : dataOk ⟨la⟩ = true → dataLess ⟨la⟩ ⟨la⟩ = false := fun h => by
    rcases less_law h h with h1 | h1
    · exact h1.2.1
    · exact absurd rfl h1.1
  have htB : tdB (dataText ⟨la⟩) = (textDataP (dataText ⟨la⟩)).isSome := rfl
  have htN : tdN (dataText ⟨la⟩) = ((textDataP (dataText ⟨la⟩)).getD ⟨[]⟩).nodes := rfl
  generalize hs : dataText ⟨la⟩ = s at *
  have hway : (tdB s = false ∧ ((s = ⟨#[]⟩ ∧ dataDeep ⟨la⟩ = 0) ∨ (s.toList.isEmpty = false ∧ 50 < dataDeep ⟨la⟩))) ∨ (tdB s = true ∧ tdN s = la ∧ s.toList.isEmpty = false ∧ dataLess ⟨la⟩ ⟨la⟩ = false) := by
    have hne : s ≠ ByteArray.empty → s.toList.isEmpty = false := fun h => by
      cases e : s.toList.isEmpty with
      | false => rfl
      | true => exact absurd ((toList_eq _ _).1 ((List.isEmpty_iff.1 e).trans toList_empty.symm)) h
    rcases hlaw with ⟨h1, h2, h3, h4⟩ | ⟨h1, h2, ⟨h3, h4⟩ | h3⟩
    · exact .inl ⟨by rw [htB, h3]; rfl, .inl ⟨h2, h4⟩⟩
    · exact .inl ⟨by rw [htB, h3]; rfl, .inr ⟨hne h2, h4⟩⟩
    · exact .inr ⟨by rw [htB, h3]; rfl, by rw [htN, h3]; rfl, hne h2, hless h1⟩
  clear hlaw hless htB htN hsm da
  have hw : Below w2.heap.size w2 w2 := Below.refl _ _
  have hdr := (deepF_range la.length (treeOf la la.length 0))
  have hdd : 0 ≤ dataDeep ⟨la⟩ ∧ dataDeep ⟨la⟩ ≤ la.length := by
    unfold dataDeep
    split
    · exact hdr
    · omega
  have hl0 : la.length ≤ 1048576 := by have := length_le_bulkS GDNode.bulk_nonneg la; have h2 : bulkS GDNode.bulk la ≤ 1048576 := hba; omega
  have c4 := fun (va : Value) (lo : Nat) W (h : GData.R lo W [va] ⟨la⟩) => impl_DataText_c ⟨la⟩ [va] lo hba W h
  rw [hs] at c4
  have c5 := fun (va vb : Value) (lo lo' : Nat) W (h : GData.R lo W [va] ⟨la⟩) (h' : GData.R lo' W [vb] ⟨la⟩) => impl_DataLess_c ⟨la⟩ [va] lo ⟨la⟩ [vb] lo' hba hba W h h'
  generalize dataDeep ⟨la⟩ = dd at *
  have cR := fun W (hW : Below w2.heap.size w2 W) => GData.good.below RA hW
  clear hdr RA hs SA2
  generalize hn : la.length = n at *
  replace hn := Lib.hid hn
  replace c1 := Lib.hid c1; replace c2 := Lib.hid c2; replace c3 := Lib.hid c3; replace c4 := Lib.hid c4; replace c5 := Lib.hid c5; replace cI := Lib.hid cI; replace cR := Lib.hid cR
  have a_0 := A.box1; have hsA := World.block_lt_of_cell? _ _ a_0; dsimp only at hsA
  rcases hway with ⟨hB, ⟨rfl, rfl⟩ | ⟨hs, hdp⟩⟩ | ⟨hB, hN, hs, hl⟩
  · go_wp2_with (first | (go_at_call 10; ((with_reducible refine (c1.out _ hw).mono ?_); rintro e w1 ⟨rfl, hb⟩; have hw := hw.trans (hb.mono hw.size); have A := A.below hb; have a_0 := A.box1; have hsA := World.block_lt_of_cell? _ _ a_0; dsimp only at hsA; clear hb)) | (go_at_call 12; ((with_reducible refine (c2.out _ hw).mono ?_); rintro e w1 ⟨rfl, hb⟩; have hw := hw.trans (hb.mono hw.size); have A := A.below hb; have a_0 := A.box1; have hsA := World.block_lt_of_cell? _ _ a_0; dsimp only at hsA; clear hb)) | (go_at_call 13; (with_reducible refine (cI.out _).mono ?_); rintro e w5 hP; obtain ⟨v, ps, rfl, O5, D5, K5, hps, hb⟩ := hP.all; obtain ⟨va, vc, rfl⟩ := O5.form; clear hP O5 D5 K5 hps; have hw5 := hw.trans (hb.mono hw.size); have hz5 := hw5.size; have A5 := A.below hb; have a5_0 := A5.box1; have hsA5 := World.block_lt_of_cell? _ _ a5_0; dsimp only at hsA5) | (go_at_call 14; (with_reducible refine (c3.out _ (by go_grown)).mono ?_); rintro e w6 ⟨rfl, hb6⟩))
    go_returns
    exact ⟨rfl, hw2.trans ((hw5.trans (Below.trans (by go_grown) (hb6.mono (by simp; omega)))).mono hw2.size)⟩
  · have hdp' : decide (50 < dd) = true := decide_eq_true hdp
    go_wp2_with (first | (go_at_call 10; ((with_reducible refine (c1.out _ hw).mono ?_); rintro e w1 ⟨rfl, hb⟩; have hw := hw.trans (hb.mono hw.size); have A := A.below hb; have a_0 := A.box1; have hsA := World.block_lt_of_cell? _ _ a_0; dsimp only at hsA; clear hb)) | (go_at_call 12; ((with_reducible refine (c2.out _ hw).mono ?_); rintro e w1 ⟨rfl, hb⟩; have hw := hw.trans (hb.mono hw.size); have A := A.below hb; have a_0 := A.box1; have hsA := World.block_lt_of_cell? _ _ a_0; dsimp only at hsA; clear hb)) | (go_at_call 13; (with_reducible refine (cI.out _).mono ?_); rintro e w5 hP; obtain ⟨v, ps, rfl, O5, D5, K5, hps, hb⟩ := hP.all; obtain ⟨va, vc, rfl⟩ := O5.form; clear hP O5 D5 K5 hps; have hw5 := hw.trans (hb.mono hw.size); have hz5 := hw5.size; have A5 := A.below hb; have a5_0 := A5.box1; have hsA5 := World.block_lt_of_cell? _ _ a5_0; dsimp only at hsA5) | (go_at_call 14; (with_reducible refine (c3.out _ (by go_grown)).mono ?_); rintro e w6 ⟨rfl, hb6⟩))
    go_returns
    exact ⟨rfl, hw2.trans ((hw5.trans (Below.trans (by go_grown) (hb6.mono (by simp; omega)))).mono hw2.size)⟩
  · replace hl := Lib.hid hl
    go_upto_region 8 with (first | (go_at_call 10; ((with_reducible refine (c1.out _ hw).mono ?_); rintro e w1 ⟨rfl, hb⟩; have hw := hw.trans (hb.mono hw.size); have A := A.below hb; have a_0 := A.box1; have hsA := World.block_lt_of_cell? _ _ a_0; dsimp only at hsA; clear hb)) | (go_at_call 12; ((with_reducible refine (c2.out _ hw).mono ?_); rintro e w1 ⟨rfl, hb⟩; have hw := hw.trans (hb.mono hw.size); have A := A.below hb; have a_0 := A.box1; have hsA := World.block_lt_of_cell? _ _ a_0; dsimp only at hsA; clear hb)) | (go_at_call 13; (with_reducible refine (cI.out _).mono ?_); rintro e w5 hP; obtain ⟨v, ps, rfl, O5, D5, K5, hps, hb⟩ := hP.all; obtain ⟨va, vc, rfl⟩ := O5.form; have R5 := Lib.hid (fun W (hW : Below w5.heap.size w5 W) => (O5.below hW).sl); rw [hps, hN] at R5; generalize ps.length = pn at *; clear hP O5 D5 K5 hps; have hw5 := hw.trans (hb.mono hw.size); have hz5 := hw5.size; have A5 := A.below hb; have a5_0 := A5.box1; have hsA5 := World.block_lt_of_cell? _ _ a5_0; dsimp only at hsA5))
    obtain ⟨w6, hW6⟩ : ∃ W, W = w5.alloc (.cells #[.slice va pn vc] 25) := ⟨_, rfl⟩
    rw [← hW6]
    have hb6 : Below w5.heap.size w5 w6 := by rw [hW6]; go_grown
    have E : RowAt w6 w5.heap.size 0 [.slice va pn vc] := by rw [hW6]; exact RowAt.box w5 #[_] _
    have A := A5.below hb6
    have hw6 := hw5.trans (hb6.mono hw5.size)
    have hz6 := hw6.size
    have RE := fun W (hW : Below w6.heap.size w6 W) => (⟨_, rfl, trivial, R5.out W (hb6.trans (hW.mono hb6.size))⟩ : GData.R w1.heap.size W [.slice va pn vc] ⟨la⟩)
    have RA := fun W (hW : Below w6.heap.size w6 W) => cR.out W (hw6.trans (hW.mono hw6.size))
    have q4 := fun W hW => c4.out (.slice va pn vc) _ W (RE W hW)
    have q5 := fun W hW => c5.out (.slice xa n ca) (.slice va pn vc) _ _ W (RA W hW) (RE W hW)
    have q6 := fun W hW => c5.out (.slice va pn vc) (.slice xa n ca) _ _ W (RE W hW) (RA W hW)
    rw [hl.out] at q5 q6
    clear hW6 A5 a5_0 a_0 hsA hsA5 R5 RE RA c1 c2 c3 c4 c5 cI cR hb hb6 hw5 hz5 hw
    have hw : Below w6.heap.size w6 w6 := Below.refl _ _
    replace q4 := Lib.hid q4; replace q5 := Lib.hid q5; replace q6 := Lib.hid q6
    have a_0 := A.box1; have hsA := World.block_lt_of_cell? _ _ a_0; dsimp only at hsA; have e_0 := E.box1; have hsE := World.block_lt_of_cell? _ _ e_0; dsimp only at hsE
    go_wp2_with (first | (go_at_call 10; ((with_reducible refine (q4.out _ hw).mono ?_); rintro e w1 ⟨rfl, hb⟩; have hw := hw.trans (hb.mono hw.size); have A := A.below hb; have a_0 := A.box1; have hsA := World.block_lt_of_cell? _ _ a_0; dsimp only at hsA; have E := E.below hb; have e_0 := E.box1; have hsE := World.block_lt_of_cell? _ _ e_0; dsimp only at hsE; clear hb)) | (go_at_call 7; ((with_reducible refine (q5.out _ hw).mono ?_); rintro e w1 ⟨rfl, hb⟩; have hw := hw.trans (hb.mono hw.size); have A := A.below hb; have a_0 := A.box1; have hsA := World.block_lt_of_cell? _ _ a_0; dsimp only at hsA; have E := E.below hb; have e_0 := E.box1; have hsE := World.block_lt_of_cell? _ _ e_0; dsimp only at hsE; clear hb)) | (go_at_call 7; ((with_reducible refine (q6.out _ hw).mono ?_); rintro e w1 ⟨rfl, hb⟩; have hw := hw.trans (hb.mono hw.size); have A := A.below hb; have a_0 := A.box1; have hsA := World.block_lt_of_cell? _ _ a_0; dsimp only at hsA; have E := E.below hb; have e_0 := E.box1; have hsE := World.block_lt_of_cell? _ _ e_0; dsimp only at hsE; clear hb)))
    go_returns
    exact ⟨rfl, hw2.trans ((hw6.trans (hw.mono hw6.size)).mono hw2.size)⟩
end fnData
end Go.Proofs.Ytpblhonnknmjjaa

/- From the form's own reading of an argument to ours. -/
namespace Go.Proofs.Ytpblhonnknmjjaa
open Go.RowKit
set_option linter.unusedVariables false

def Opens {α : Type} (P : Program) (t : TypeId) (R : Reading α) : Prop := ∀ (H : Type) (enc : TypeId × Value → H) (w : World) (spare : Nat → Bool) (held : Bool) (fuel : Nat) (cs : List Value) (x : DataW H × List MemPlace),
  DataW.trod enc P w 0 spare held fuel t cs = some x → ∃ y, R 0 w cs y

def SlR {α : Type} (R : Reading α) (sz : Nat) : Reading (List α) := fun lo w r xs => ∃ v, r = [v] ∧ Sl R sz lo w v xs

theorem opens_int {P : Program} {t : TypeId} (ht : P.underlying t = some (.int .i64)) : Opens P t IntR := by
  intro H enc w spare held fuel cs x h
  obtain ⟨n, rfl, _, hw⟩ := DataW.trod_int ht h
  exact ⟨n, rfl, bounds_i64 hw⟩

theorem opens_string {P : Program} {t : TypeId} (ht : P.underlying t = some .string) : Opens P t StrR := by
  intro H enc w spare held fuel cs x h
  obtain ⟨n, rfl, _, hw⟩ := DataW.trod_string ht h
  exact ⟨n, rfl, by unfold StrOk; unfold maxLen at hw; omega⟩

theorem opens_bool {P : Program} {t : TypeId} (ht : P.underlying t = some .bool) : Opens P t BoolR := by
  intro H enc w spare held fuel cs x h
  obtain ⟨n, rfl, _⟩ := DataW.trod_bool ht h
  exact ⟨n, rfl⟩

theorem opens_byte {P : Program} {t : TypeId} (ht : P.underlying t = some (.int .u8)) : Opens P t ByteR := by
  intro H enc w spare held fuel cs x h
  obtain ⟨n, rfl, _, hw⟩ := DataW.trod_int ht h
  have hb := bounds_u8 hw
  exact ⟨UInt8.ofNat n.toNat, by
    have h1 : (UInt8.ofNat n.toNat).toNat = n.toNat := by
      rw [UInt8.toNat_ofNat']; exact Nat.mod_eq_of_lt (by omega)
    show [Value.int .u8 n] = _
    rw [h1, Int.toNat_of_nonneg hb.1]⟩

theorem list_of {α : Type} {p : Nat → α → Prop} : ∀ (n : Nat), (∀ i, i < n → ∃ y, p i y) → ∃ l : List α, l.length = n ∧ ∀ i y, l[i]? = some y → p i y
  | 0, _ => ⟨[], rfl, fun i y h => by simp at h⟩
  | n + 1, h => by
    obtain ⟨l, hl, hp⟩ := list_of n (fun i hi => h i (by omega))
    obtain ⟨y, hy⟩ := h n (by omega)
    refine ⟨l ++ [y], by simp [hl], fun i z hz => ?_⟩
    rcases Nat.lt_trichotomy i n with hi | hi | hi
    · rw [List.getElem?_append_left (by omega)] at hz
      exact hp i z hz
    · subst hi
      rw [List.getElem?_append_right (by omega), hl] at hz
      simp at hz
      exact hz ▸ hy
    · rw [List.getElem?_eq_none (by simp; omega)] at hz
      cases hz

theorem add_none (b off n : Nat) : (⟨b, off, none⟩ : Addr).add n = ⟨b, off + n, none⟩ := by
  unfold Addr.add
  split
  · subst_vars; rfl
  · rfl

theorem opens_slice {α : Type} {P : Program} {t e : TypeId} {R : Reading α} {sz : Nat} (ht : P.underlying t = some (.slice e)) (hc : P.cellsOf e = sz) (hsz : 0 < sz) (hO : Opens P e R) : Opens P t (SlR R sz) := by
  intro H enc w spare held fuel cs x h
  rcases Deep.open_slice ht h with ⟨rfl, _⟩ | ⟨a, len, cap, m, n, D, Pl, rfl, _, hl, hm, hmm, _, hel⟩
  · exact ⟨[], _, rfl, Sl.nil⟩
  have hlm : len ≤ m := by rw [hmm]; split <;> omega
  rw [hc] at hel
  obtain ⟨xs, hxl, hxs⟩ := list_of (p := fun i y => ∃ cs', w.cells? 0 (a.add (i * sz)) sz = some cs' ∧ R 0 w cs' y) len (fun i hi => by
    obtain ⟨cs', h1, h2⟩ := hel i (by omega)
    obtain ⟨y, hy⟩ := hO H enc w spare held n cs' _ h2
    exact ⟨y, cs', h1, hy⟩)
  subst hxl
  refine ⟨xs, _, rfl, some a, cap, rfl, hl, by unfold maxLen at hm; omega, fun hne => ?_⟩
  have hspot : a.spot = none := by
    obtain ⟨cs', h1, _⟩ := hxs 0 xs[0] (by simp)
    obtain ⟨_, h3, h4⟩ := World.cells?_some h1
    have h5 := h4 0 (by omega)
    have h6 : ∃ v, w.cell? (a.add (0 * sz) |>.add 0) = some v := by
      obtain ⟨v, hv⟩ : ∃ v, cs'[0]? = some v := ⟨cs'[0]'(by omega), by simp⟩
      exact ⟨v, by rw [h5, hv]⟩
    obtain ⟨v, hv⟩ := h6
    have h7 := World.cell?_spot hv
    simpa [Addr.add] using h7
  obtain ⟨b, off, sp⟩ := a
  simp only at hspot
  subst hspot
  refine ⟨b, off, Nat.zero_le _, rfl, fun i y hy => ?_⟩
  obtain ⟨cs', h1, h2⟩ := hxs i y hy
  obtain ⟨_, h3, h4⟩ := World.cells?_some h1
  refine ⟨cs', h2, fun j c hjc => ?_⟩
  have hj : j < sz := by
    have := (List.getElem?_eq_some_iff.1 hjc).1
    omega
  have h5 := h4 j hj
  rw [add_none, add_none] at h5
  rw [h5, hjc]

theorem list_len1 {α : Type} {l : List α} (h : l.length = 1) : ∃ a, l = [a] := by
  match l, h with | [a], _ => exact ⟨a, rfl⟩
theorem list_len2 {α : Type} {l : List α} (h : l.length = 2) : ∃ a b, l = [a, b] := by
  match l, h with | [a, b], _ => exact ⟨a, b, rfl⟩
theorem list_len3 {α : Type} {l : List α} (h : l.length = 3) : ∃ a b c, l = [a, b, c] := by
  match l, h with | [a, b, c], _ => exact ⟨a, b, c, rfl⟩
theorem list_len4 {α : Type} {l : List α} (h : l.length = 4) : ∃ a b c d, l = [a, b, c, d] := by
  match l, h with | [a, b, c, d], _ => exact ⟨a, b, c, d, rfl⟩
theorem list_len6 {α : Type} {l : List α} (h : l.length = 6) : ∃ a b c d e f, l = [a, b, c, d, e, f] := by
  match l, h with | [a, b, c, d, e, f], _ => exact ⟨a, b, c, d, e, f, rfl⟩
theorem list_len9 {α : Type} {l : List α} (h : l.length = 9) : ∃ a b c d e f g i j, l = [a, b, c, d, e, f, g, i, j] := by
  match l, h with | [a, b, c, d, e, f, g, i, j], _ => exact ⟨a, b, c, d, e, f, g, i, j, rfl⟩

/-- A struct argument. -/
theorem open_struct {α : Type} {H : Type} {enc : TypeId × Value → H} {P : Program} {t : TypeId} {fs : Array Field} {R : Reading α} {w : World} {base : Nat} {v : Value} {d : DataW H} {spare : Nat → Bool} {held : Bool} {ps : List MemPlace}
    (hs : P.underlying t = some (.struct fs)) (hO : Opens P t R) (hv : Value.okWide P w .any base t v) (h : DataW.Trod enc P w 0 spare held t v d ps) : ∃ r x, v = .agg r.toArray ∧ R 0 w r x := by
  unfold Value.okWide at hv
  rw [hs] at hv
  obtain ⟨cs, rfl, _, _⟩ := hv
  obtain ⟨fuel, hf⟩ := h
  obtain ⟨x, hx⟩ := hO H enc w spare held fuel _ _ hf
  exact ⟨cs.toList, x, by simp, hx⟩

/-- A slice argument. -/
theorem open_slice_arg {α : Type} {H : Type} {enc : TypeId × Value → H} {P : Program} {t e : TypeId} {R : Reading α} {sz : Nat} {w : World} {base : Nat} {v : Value} {d : DataW H} {spare : Nat → Bool} {held : Bool} {ps : List MemPlace}
    (hs : P.underlying t = some (.slice e)) (hO : Opens P t (SlR R sz)) (hv : Value.okWide P w .any base t v) (h : DataW.Trod enc P w 0 spare held t v d ps) : ∃ xs, Sl R sz 0 w v xs := by
  obtain ⟨a, len, cap, rfl⟩ := Go.WideShapes.okWide_slice hs hv
  obtain ⟨fuel, hf⟩ := h
  obtain ⟨xs, u, hu, hx⟩ := hO H enc w spare held fuel _ _ hf
  simp [Value.cells] at hu
  subst hu
  exact ⟨xs, hx⟩

end Go.Proofs.Ytpblhonnknmjjaa
