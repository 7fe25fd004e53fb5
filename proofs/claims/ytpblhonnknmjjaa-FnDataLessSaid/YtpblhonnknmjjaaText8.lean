/- DataText of both. -/
import Derived.Test.YtpblhonnknmjjaaText7
namespace Go.Proofs.Ytpblhonnknmjjaa
open Go.RowKit
set_option linter.unusedVariables false
set_option linter.unusedSimpArgs false
attribute [local go_sem] Ext.cell

/-- The text of a right value, none of what is none. -/
def dataText (d : GData) : ByteArray := if dataOk d then textT d.nodes.length (treeOf d.nodes d.nodes.length 0) else ByteArray.empty

theorem data_wf {d : GData} {r : List Value} {lo : Nat} {w : World} (hr : GData.R lo w r d) : ∀ (j : Nat) x, d.nodes[j]? = some x → x.wf := by
  intro j x hx
  obtain ⟨u, rfl, -, hu⟩ := hr
  obtain ⟨a, c, rfl, ul, um, h0⟩ := hu
  have hj := (List.getElem?_eq_some_iff.1 hx).1
  obtain ⟨b, o, y, s, _, _, P, ⟨_, _, hy, _⟩, _⟩ := h0.get (Lib.hid rfl) hj
  obtain rfl : x = y := Option.some.inj (hx.symm.trans P.out)
  exact hy

set_option maxRecDepth 100000 in
set_option maxHeartbeats 4000000 in
theorem impl_DataText_c (d : GData) (r : List Value) (lo : Nat) (hbk : d.bulk ≤ 1048576) (w : World) (hr : GData.R lo w r d) :
    Calls Try.prog 10 #[.agg r.toArray] w fun e w' => e = .returned (.string (dataText d)) ∧ Below w.heap.size w w' := by
  have hd : d.nodes.length ≤ 1152921504606846976 := by have := length_le_bulkS GDNode.bulk_nonneg d.nodes; unfold GData.bulk at hbk; omega
  have c1 := fun W (hW : Below w.heap.size w W) => DataOk_c d hd r lo W (GData.good.below hr hW)
  unfold dataText
  cases hok : dataOk d with
  | false =>
    rw [hok] at c1
    obtain ⟨u, rfl, -, hu⟩ := hr
    obtain ⟨a, c, rfl⟩ := hu.form
    clear hu hbk
    replace c1 := Lib.hid c1
    generalize d.nodes.length = n at *
    go_enter Try.func10, Try.ntmps10
    go_upto_region 1 with fail
    have B : RowAt (w.alloc (.cells #[.slice a n c] 25)) (w.heap.size) 0 [.slice a n c] := RowAt.box w #[.slice a n c] 25
    have hw : Below w.heap.size w (w.alloc (.cells #[.slice a n c] 25)) := by go_grown
    generalize (w.alloc (.cells #[.slice a n c] 25)) = w0 at *
    have b_0 := B.box1; have hsB := World.block_lt_of_cell? _ _ b_0; dsimp only at hsB
    go_wp2_with (go_at_call 22; ((with_reducible refine (c1.out _ hw).mono ?_); rintro e w1 ⟨rfl, hb⟩; have hw := hw.trans (hb.mono hw.size); have B := B.below hb; have b_0 := B.box1; have hsB := World.block_lt_of_cell? _ _ b_0; dsimp only at hsB; clear hb))
    go_returns
    exact ⟨rfl, hw⟩
  | true =>
    rw [hok] at c1
    obtain ⟨hU, h0, hL⟩ := dataOk_up hok
    have hfew := dataOk_few hok
    have htok := treeOf_tok d.nodes hU (dataOk_nodes hok) (data_wf hr) d.nodes.length 0 h0 (by omega)
    have hwt := wt_data hok hbk
    have Hr := hr
    obtain ⟨u, rfl, -, hu⟩ := hr
    have c2 : ∀ W, Below w.heap.size w W → Calls Try.prog 27 #[u, .int .i64 0] W fun e w' => ∃ b, e = .returned (.pointer (some ⟨b, 0, none⟩)) ∧ PxR d.nodes.length (fun b => W.heap.size ≤ b) w' (.pointer (some ⟨b, 0, none⟩)) (treeOf d.nodes d.nodes.length 0) ∧ Below W.heap.size W w' := fun W hW => growData_c d.nodes hU hfew hL d.nodes.length 0 u lo W (hu.below GDNode.good hW) h0 (by omega)
    have c3 := fun v S W (hW : PxR d.nodes.length S W v (treeOf d.nodes d.nodes.length 0)) => dataText_c d.nodes.length S v (treeOf d.nodes d.nodes.length 0) W hW htok hwt
    obtain ⟨a, c, rfl⟩ := hu.form
    clear hu Hr hU hfew hok htok hwt hbk
    generalize d.nodes.length = n at *
    generalize treeOf d.nodes n 0 = t at *
    generalize textT n t = dd at *
    replace c1 := Lib.hid c1; replace c2 := Lib.hid c2; replace c3 := Lib.hid c3
    go_enter Try.func10, Try.ntmps10
    go_upto_region 1 with fail
    have B : RowAt (w.alloc (.cells #[.slice a n c] 25)) (w.heap.size) 0 [.slice a n c] := RowAt.box w #[.slice a n c] 25
    have hw : Below w.heap.size w (w.alloc (.cells #[.slice a n c] 25)) := by go_grown
    generalize (w.alloc (.cells #[.slice a n c] 25)) = w0 at *
    have b_0 := B.box1; have hsB := World.block_lt_of_cell? _ _ b_0; dsimp only at hsB
    go_wp2_with (first | (go_at_call 22; ((with_reducible refine (c1.out _ hw).mono ?_); rintro e w1 ⟨rfl, hb⟩; have hw := hw.trans (hb.mono hw.size); have B := B.below hb; have b_0 := B.box1; have hsB := World.block_lt_of_cell? _ _ b_0; dsimp only at hsB; clear hb)) | (go_at_call 27; ((with_reducible refine (c2.out _ hw).mono ?_); rintro e w1 ⟨pb, rfl, hP, hb⟩; have hw := hw.trans (hb.mono hw.size); have B := B.below hb; have b_0 := B.box1; have hsB := World.block_lt_of_cell? _ _ b_0; dsimp only at hsB; clear hb)) | (go_at_call 26; ((with_reducible refine (c3.out _ _ _ hP).mono ?_); rintro e w1 ⟨rfl, hb⟩; have hw := hw.trans (hb.mono hw.size); have B := B.below hb; have b_0 := B.box1; have hsB := World.block_lt_of_cell? _ _ b_0; dsimp only at hsB; clear hb)))
    go_returns
    exact ⟨rfl, hw⟩

set_option maxRecDepth 100000 in
set_option maxHeartbeats 4000000 in
theorem spec_DataText_c (d : GData) (r : List Value) (lo : Nat) (hbk : d.bulk ≤ 1048576) (w : World) (hr : GData.R lo w r d) :
    Calls Try.prog 12 #[.agg r.toArray] w fun e w' => e = .returned (.string (dataText d)) ∧ Below w.heap.size w w' := by
  have hd : d.nodes.length ≤ 1152921504606846976 := by have := length_le_bulkS GDNode.bulk_nonneg d.nodes; unfold GData.bulk at hbk; omega
  have c1 := fun W (hW : Below w.heap.size w W) => specDataOk_c d hd r lo W (GData.good.below hr hW)
  unfold dataText
  cases hok : dataOk d with
  | false =>
    rw [hok] at c1
    obtain ⟨u, rfl, -, hu⟩ := hr
    obtain ⟨a, c, rfl⟩ := hu.form
    clear hu hbk
    replace c1 := Lib.hid c1
    generalize d.nodes.length = n at *
    go_enter Try.func12, Try.ntmps12
    go_upto_region 1 with fail
    have B : RowAt (w.alloc (.cells #[.slice a n c] 25)) (w.heap.size) 0 [.slice a n c] := RowAt.box w #[.slice a n c] 25
    have hw : Below w.heap.size w (w.alloc (.cells #[.slice a n c] 25)) := by go_grown
    generalize (w.alloc (.cells #[.slice a n c] 25)) = w0 at *
    have b_0 := B.box1; have hsB := World.block_lt_of_cell? _ _ b_0; dsimp only at hsB
    go_wp2_with (go_at_call 9; ((with_reducible refine (c1.out _ hw).mono ?_); rintro e w1 ⟨rfl, hb⟩; have hw := hw.trans (hb.mono hw.size); have B := B.below hb; have b_0 := B.box1; have hsB := World.block_lt_of_cell? _ _ b_0; dsimp only at hsB; clear hb))
    go_returns
    exact ⟨rfl, hw⟩
  | true =>
    rw [hok] at c1
    obtain ⟨hU, h0, hL⟩ := dataOk_up hok
    have htok := treeOf_tok d.nodes hU (dataOk_nodes hok) (data_wf hr) d.nodes.length 0 h0 (by omega)
    have hwt := wt_data hok hbk
    have c2 : ∀ W, Below w.heap.size w W → Calls Try.prog 28 #[.agg r.toArray, .int .i64 0] W fun e w' => e = .returned (.string (textT d.nodes.length (treeOf d.nodes d.nodes.length 0))) ∧ Below W.heap.size W w' := fun W hW => l21Text_c d hU hL d.nodes.length 0 h0 (by omega) htok hwt r lo W (GData.good.below hr hW)
    obtain ⟨u, rfl, -, hu⟩ := hr
    obtain ⟨a, c, rfl⟩ := hu.form
    clear hu hU hok htok hwt hbk
    generalize d.nodes.length = n at *
    generalize textT n (treeOf d.nodes n 0) = dd at *
    replace c1 := Lib.hid c1; replace c2 := Lib.hid c2
    go_enter Try.func12, Try.ntmps12
    go_upto_region 1 with fail
    have B : RowAt (w.alloc (.cells #[.slice a n c] 25)) (w.heap.size) 0 [.slice a n c] := RowAt.box w #[.slice a n c] 25
    have hw : Below w.heap.size w (w.alloc (.cells #[.slice a n c] 25)) := by go_grown
    generalize (w.alloc (.cells #[.slice a n c] 25)) = w0 at *
    have b_0 := B.box1; have hsB := World.block_lt_of_cell? _ _ b_0; dsimp only at hsB
    go_wp2_with (first | (go_at_call 9; ((with_reducible refine (c1.out _ hw).mono ?_); rintro e w1 ⟨rfl, hb⟩; have hw := hw.trans (hb.mono hw.size); have B := B.below hb; have b_0 := B.box1; have hsB := World.block_lt_of_cell? _ _ b_0; dsimp only at hsB; clear hb)) | (go_at_call 28; ((with_reducible refine (c2.out _ hw).mono ?_); rintro e w1 ⟨rfl, hb⟩; have hw := hw.trans (hb.mono hw.size); have B := B.below hb; have b_0 := B.box1; have hsB := World.block_lt_of_cell? _ _ b_0; dsimp only at hsB; clear hb)))
    go_returns
    exact ⟨rfl, hw⟩

end Go.Proofs.Ytpblhonnknmjjaa
