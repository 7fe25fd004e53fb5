/- Parts of the proof, merged: PatOk4, PText8. -/
import Derived.Test.YtklfepnokidnaaaSc29
/- PatOk: the reference's. -/
namespace Go.Proofs.Ytklfepnokidnaaa
open Go.RowKit
set_option linter.unusedVariables false
set_option linter.unusedSimpArgs false
attribute [local go_sem] Ext.cell

theorem mem_varsOf {l : List GDNode} {s : ByteArray} : s ∈ varsOf l ↔ ∃ x ∈ l, x.kind = 2 ∧ x.s = s := by
  unfold varsOf
  rw [List.mem_map]
  constructor
  · rintro ⟨x, hx, rfl⟩
    obtain ⟨h1, h2⟩ := List.mem_filter.1 hx
    exact ⟨x, h1, by simpa using h2, rfl⟩
  · rintro ⟨x, h1, h2, rfl⟩
    exact ⟨x, List.mem_filter.2 ⟨h1, by simpa using h2⟩, rfl⟩

set_option maxRecDepth 100000 in
set_option maxHeartbeats 8000000 in
theorem specPatOk_c (d : GData) (hd : d.nodes.length ≤ 1152921504606846976) (r : List Value) (lo : Nat) (w : World) (hr : GData.R lo w r d) :
    Calls Try.prog 25 #[.agg r.toArray] w fun e w' => e = .returned (.bool (patOk d)) ∧ Below w.heap.size w w' := by
  have Hr := hr
  obtain ⟨u, rfl, -, hu⟩ := hr
  obtain ⟨a, c, rfl, ul, um, h0⟩ := hu
  have CE := fun W (hW : Below w.heap.size w W) => l04PEnd_c d hd (d.nodes.length + 1) 0 [.slice a d.nodes.length c] lo W (GData.good.below Hr hW) (by omega)
  have CN := fun (x : GDNode) (r2 : List Value) (W : World) (hW : Below w.heap.size w W) (lo2 : Nat) (hx : GDNode.R lo2 W r2 x) => l04PNode_c x d hd [.slice a d.nodes.length c] r2 lo lo2 W (GData.good.below Hr hW) hx
  replace CE := Lib.hid CE
  replace CN := Lib.hid CN
  replace h0 := Lib.hid h0
  clear Hr
  obtain ⟨n, hn⟩ : ∃ n, n = d.nodes.length := ⟨_, rfl⟩
  rw [← hn] at ul hd CN ⊢
  replace hn := Lib.hid hn
  by_cases hs : n < 1
  · have d1 : decide ((n : Int) < 1) = true := decide_eq_true (by omega)
    go_enter Try.func25, Try.ntmps25
    go_wp2_with fail
    go_returns
    exact ⟨by unfold patOk; rw [← hn.out, decide_eq_false (by omega)]; rfl, by go_grown⟩
  by_cases hb : 600 < n
  · have d1 : decide ((n : Int) < 1) = false := decide_eq_false (by omega)
    have d2 : decide (600 < (n : Int)) = true := decide_eq_true (by omega)
    have d2' : decide (600 < n) = true := decide_eq_true (by omega)
    go_enter Try.func25, Try.ntmps25
    go_wp2_with fail
    go_returns
    exact ⟨by unfold patOk; rw [← hn.out, decide_eq_false (by omega)]; rfl, by go_grown⟩
  have d1 : decide ((n : Int) < 1) = false := decide_eq_false (by omega)
  have d2 : decide (600 < (n : Int)) = false := decide_eq_false (by omega)
  have d2' : decide (600 < n) = false := decide_eq_false (by omega)
  go_enter Try.func25, Try.ntmps25
  go_upto_region 1 with fail
  have B : RowAt (w.alloc (.cells #[.slice a n c] 41)) (w.heap.size) 0 [.slice a n c] := RowAt.box w #[.slice a n c] 41
  have hw : Below w.heap.size w (w.alloc (.cells #[.slice a n c] 41)) := by go_grown
  generalize (w.alloc (.cells #[.slice a n c] 41)) = w0 at *
  have b_0 := B.box1; have hsB := World.block_lt_of_cell? _ _ b_0; dsimp only at hsB
  go_wp2_with fail
  go_loopw [19] (fun i wr => ∃ k : Nat, k ≤ n ∧ i = .int .i64 k ∧ Below w.heap.size w wr ∧ RowAt wr w.heap.size 0 [.slice a n c] ∧ Hid (∀ y ∈ d.nodes.take k, pnOk d.nodes y = true) ∧ Hid (varsOf (d.nodes.take k)).Nodup) (fun i _ => n - (intOf i).toNat)
  case atStart => exact ⟨0, by omega, rfl, hw, B, fun y hy => by simp at hy, by show (varsOf (d.nodes.take 0)).Nodup; simp [varsOf]⟩
  case round =>
    clear hw B b_0 hsB
    obtain ⟨k, hk, rfl, hw, B, hF, hV⟩ := hrel
    have b_0 := B.box1; have hsB := World.block_lt_of_cell? _ _ b_0; dsimp only at hsB
    by_cases hlt : k < n
    · obtain ⟨b1, o1, x, s1, _, rfl, P1, hx, r1⟩ := (h0.out.below GDNode.good hw).get hn hlt
      obtain ⟨kd, nn, s, ks⟩ := x
      have Hx := hx
      obtain ⟨u0, rfl, hwf, hkd⟩ := hx
      obtain ⟨ka, kc, rfl, kl, km, k0⟩ := hkd
      have hss : StrOk s := hwf.2.2
      dsimp only at r1 kl k0 hwf Hx
      obtain ⟨m, hm⟩ : ∃ m, m = ks.length := ⟨_, rfl⟩
      rw [← hm] at r1 kl Hx
      replace hm := Lib.hid hm
      obtain ⟨e_0, e_1, e_2, e_3⟩ := r1.cells4
      clear r1 hwf k0
      replace Hx := Lib.hid Hx
      go_upto_region 6 with fail
      have hz := hw.size
      have hb1 : Below wr.heap.size wr (wr.alloc (.cells #[.int .i64 kd, .int .i64 nn, .string s, .slice ka m kc] 77)) := by go_grown
      have B' := B.below hb1
      have D : RowAt (wr.alloc (.cells #[.int .i64 kd, .int .i64 nn, .string s, .slice ka m kc] 77)) wr.heap.size 0 [.int .i64 kd, .int .i64 nn, .string s, .slice ka m kc] := RowAt.box _ _ _
      have hw' : Below w.heap.size w (wr.alloc (.cells #[.int .i64 kd, .int .i64 nn, .string s, .slice ka m kc] 77)) := by go_grown
      generalize wr.alloc (.cells #[.int .i64 kd, .int .i64 nn, .string s, .slice ka m kc] 77) = w1 at *
      have cN := fun W (hW : Below w1.heap.size w1 W) => CN.out ⟨kd, nn, s, ks⟩ [.int .i64 kd, .int .i64 nn, .string s, .slice ka m kc] W (hw'.trans (hW.mono hw'.size)) _ (GDNode.good.below Hx.out (hb1.trans (hW.mono hb1.size)))
      clear hw B b_0 hsB e_0 e_1 e_2 e_3 hz
      have B := B'; clear B' hb1 Hx
      have P1' := P1.out
      have htk : varsOf (d.nodes.take (k + 1)) = varsOf (d.nodes.take k) ++ (if kd = 2 then [s] else []) := by rw [take_snoc' P1', varsOf_snoc]
      have hbad : pnOk d.nodes ⟨kd, nn, s, ks⟩ = false → patOk d = false := fun h => patOk_bad P1' h
      have hstep := fun h => pn_step hF.out P1' h
      have htwice : kd = 2 → s ∈ varsOf (d.nodes.take k) → patOk d = false := fun h1 h2 => patOk_twice (k := k + 1) (by
        rw [htk, if_pos h1, List.nodup_append]
        exact fun h => h.2.2 s h2 s (by simp) rfl)
      generalize hq : pnOk d.nodes ⟨kd, nn, s, ks⟩ = q at *
      clear P1 P1' hF hm
      replace cN := Lib.hid cN; replace htk := Lib.hid htk; replace hstep := Lib.hid hstep; replace htwice := Lib.hid htwice; replace hw' := Lib.hid hw'
      have hw : Below w1.heap.size w1 w1 := Below.refl _ _
      have b_0 := B.box1; have hsB := World.block_lt_of_cell? _ _ b_0; dsimp only at hsB; obtain ⟨d_0, d_1, d_2, d_3⟩ := D.box4; have hsD := World.block_lt_of_cell? _ _ d_0; dsimp only at hsD
      cases q
      · have hres := Lib.hid (hbad rfl)
        clear hbad hq
        go_wp2_with (go_at_call 51; ((with_reducible refine (cN.out _ hw).mono ?_); rintro e w1 ⟨rfl, hb⟩; have hw := hw.trans (hb.mono hw.size); have B := B.below hb; have b_0 := B.box1; have hsB := World.block_lt_of_cell? _ _ b_0; dsimp only at hsB; have D := D.below hb; obtain ⟨d_0, d_1, d_2, d_3⟩ := D.box4; have hsD := World.block_lt_of_cell? _ _ d_0; dsimp only at hsD; clear hb))
        go_returns
        exact ⟨by rw [hres.out]; rfl, hw'.out.trans (hw.mono hw'.out.size)⟩
      clear hbad hq
      go_wp2_with (go_at_call 51; ((with_reducible refine (cN.out _ hw).mono ?_); rintro e w1 ⟨rfl, hb⟩; have hw := hw.trans (hb.mono hw.size); have B := B.below hb; have b_0 := B.box1; have hsB := World.block_lt_of_cell? _ _ b_0; dsimp only at hsB; have D := D.below hb; obtain ⟨d_0, d_1, d_2, d_3⟩ := D.box4; have hsD := World.block_lt_of_cell? _ _ d_0; dsimp only at hsD; clear hb))
      have hw := hw'.out.trans (hw.mono hw'.out.size)
      generalize hbN : wr.heap.size = bN at *
      replace hbN := Lib.hid hbN
      go_loopw [5] (fun i wr2 => ∃ j : Nat, j ≤ k ∧ i = .int .i64 j ∧ Below w.heap.size w wr2 ∧ RowAt wr2 w.heap.size 0 [.slice (some ⟨b1, o1, none⟩) n c] ∧ RowAt wr2 bN 0 [.int .i64 kd, .int .i64 nn, .string s, .slice ka m kc] ∧ Hid (kd = 2 → s ∉ varsOf (d.nodes.take j))) (fun i _ => k - (intOf i).toNat)
      case atStart => exact ⟨0, by omega, rfl, hw, B, D, fun _ => by show s ∉ varsOf (d.nodes.take 0); simp [varsOf]⟩
      case round =>
        clear hw B D b_0 d_0 d_1 d_2 d_3 hsB hsD
        obtain ⟨j, hj, rfl, hw, B, D, hI⟩ := hrel
        have b_0 := B.box1; have hsB := World.block_lt_of_cell? _ _ b_0; dsimp only at hsB; obtain ⟨d_0, d_1, d_2, d_3⟩ := D.box4; have hsD := World.block_lt_of_cell? _ _ d_0; dsimp only at hsD
        by_cases hjk : j < k
        · obtain ⟨b3, o3, y, s3, _, hpa, P3, hy, r3⟩ := (h0.out.below GDNode.good hw).get hn (show j < n by omega)
          obtain ⟨rfl, rfl⟩ : b3 = b1 ∧ o3 = o1 := by injection hpa with h; injection h with h1 h2; exact ⟨h1.symm, h2.symm⟩
          obtain ⟨yd, yn, ys, yks⟩ := y
          obtain ⟨y0, rfl, -, -⟩ := hy
          obtain ⟨f_0, f_1, f_2, f_3⟩ := r3.cells4
          have hbj := World.block_lt_of_cell? _ _ f_0
          dsimp only at hbj
          have P3' := P3.out
          have hin : ∀ (h : yd = 2) (h' : ys = s), s ∈ varsOf (d.nodes.take k) := fun h h' => mem_varsOf.2 ⟨_, List.mem_take_iff_getElem.2 ⟨j, by have := (List.getElem?_eq_some_iff.1 P3').1; omega, (List.getElem?_eq_some_iff.1 P3').2⟩, h, h'⟩
          have hnext : (kd = 2 → yd = 2 → ys ≠ s) → (kd = 2 → s ∉ varsOf (d.nodes.take (j + 1))) := fun h hk2 => by
            rw [take_snoc' P3', varsOf_snoc]
            intro hm
            rcases List.mem_append.1 hm with h1 | h1
            · exact hI.out hk2 h1
            · dsimp only at h1
              split at h1
              · rename_i h2; simp only [List.mem_singleton] at h1; exact h hk2 h2 h1.symm
              · cases h1
          have hse : (ys.toList == s.toList) = true ↔ ys = s := by rw [beq_iff_eq]; exact toList_eq _ _
          clear r3 P3 P3' hI hpa
          have hway : ((kd == 2) = true ∧ (yd == 2) = true ∧ (ys.toList == s.toList) = true ∧ patOk d = false) ∨ (((kd == 2) = false ∨ (kd == 2) = true ∧ (yd == 2) = false ∨ (kd == 2) = true ∧ (yd == 2) = true ∧ (ys.toList == s.toList) = false) ∧ (kd = 2 → s ∉ varsOf (d.nodes.take (j + 1)))) := by
            cases e1 : (kd == 2)
            · exact .inr ⟨.inl rfl, hnext fun h => by simp [h] at e1⟩
            · cases e2 : (yd == 2)
              · exact .inr ⟨.inr (.inl ⟨rfl, rfl⟩), hnext fun _ h => by simp [h] at e2⟩
              · cases e3 : (ys.toList == s.toList)
                · exact .inr ⟨.inr (.inr ⟨rfl, rfl, rfl⟩), hnext fun _ _ h => by rw [hse.2 h] at e3; cases e3⟩
                · exact .inl ⟨rfl, rfl, rfl, htwice.out (by simpa using e1) (hin (by simpa using e2) (hse.1 e3))⟩
          clear hin hnext hse
          rcases hway with ⟨e1, e2, e3, hres⟩ | ⟨hno, hI⟩
          · replace hres := Lib.hid hres
            go_upto_region 11 with fail
            (refine wp_region_ext_lit (by kernel_rfl) (by kernel_rfl) ?_; (repeat (any_goals (first | go_big_quiet_step ((first | fail)) | quiet_step ((first | fail)) | (refine wpQuiet_step (fun K hK => ?_); go_simp; split <;> (refine hK _ ?_; clear hK K))))); all_goals (refine wpQuiet_nil ?_; rintro w1 ⟨⟨w2, hb⟩, rfl⟩; have hw := hw.trans (hb.mono hw.size); have B := B.below hb; have b_0 := B.box1; have hsB := World.block_lt_of_cell? _ _ b_0; dsimp only at hsB; have D := D.below hb; obtain ⟨d_0, d_1, d_2, d_3⟩ := D.box4; have hsD := World.block_lt_of_cell? _ _ d_0; dsimp only at hsD; clear hb))
            all_goals go_wp2_with fail
            all_goals go_returns
            all_goals exact ⟨by rw [hres.out]; rfl, hw⟩
          · replace hI := Lib.hid hI
            rcases hno with e1 | ⟨e1, e2⟩ | ⟨e1, e2, e3⟩
            all_goals go_upto_region 11 with fail
            all_goals (refine wp_region_ext_lit (by kernel_rfl) (by kernel_rfl) ?_; (repeat (any_goals (first | go_big_quiet_step ((first | fail)) | quiet_step ((first | fail)) | (refine wpQuiet_step (fun K hK => ?_); go_simp; split <;> (refine hK _ ?_; clear hK K))))); all_goals (refine wpQuiet_nil ?_; rintro w1 ⟨⟨w2, hb⟩, rfl⟩; have hw := hw.trans (hb.mono hw.size); have B := B.below hb; have b_0 := B.box1; have hsB := World.block_lt_of_cell? _ _ b_0; dsimp only at hsB; have D := D.below hb; obtain ⟨d_0, d_1, d_2, d_3⟩ := D.box4; have hsD := World.block_lt_of_cell? _ _ d_0; dsimp only at hsD; clear hb))
            all_goals go_wp2_with fail
            all_goals go_roundw
            all_goals first | exact ⟨j + 1, by omega, by go_num, hw, B, D, hI⟩ | (simp [intOf]; omega)
        · obtain rfl : j = k := by omega
          go_wp2_with fail
          go_roundw
          case rel => exact ⟨j + 1, by omega, by go_num, hw, B, hstep.out trivial, by
            show (varsOf _).Nodup
            rw [htk.out]
            split
            · rename_i h2; rw [List.nodup_append]; exact ⟨hV.out, by simp, fun a ha b hb => by simp only [List.mem_singleton] at hb; subst hb; exact fun e => hI.out h2 (e ▸ ha)⟩
            · rw [List.append_nil]; exact hV.out⟩
          case measure => simp [intOf]; omega
    · obtain rfl : k = n := by omega
      have CE' := fun W (hW : Below wr.heap.size wr W) => CE.out W (hw.trans (hW.mono hw.size))
      have hgood := patOk_good (d := d) (by have := hn.out; omega) (by have := hn.out; omega) (hn.out ▸ hF.out) (hn.out ▸ hV.out)
      have hE : endsK d.nodes.length (kidsAt d.nodes) (d.nodes.length + 1) 0 = ends d.nodes (d.nodes.length + 1) 0 := (ends_eq _ _ _).symm
      rw [hE] at hgood
      rw [← hn.out] at hgood CE'
      replace hgood := Lib.hid hgood
      generalize ends d.nodes (k + 1) 0 = E at *
      replace CE' := Lib.hid CE'
      go_wp2_with fail
      (refine wp_region_ext_lit (by kernel_rfl) (by kernel_rfl) ?_; (repeat (any_goals (first | go_big_quiet_step ((first | (go_at_call 52; exact Calls.ext (CE'.out _ (Subtype.property _))))) | quiet_step ((first | (go_at_call 52; exact Calls.ext (CE'.out _ (Subtype.property _))))) | (refine wpQuiet_step (fun K hK => ?_); go_simp; split <;> (refine hK _ ?_; clear hK K))))); all_goals (refine wpQuiet_nil ?_; rintro w1 ⟨⟨w2, hb⟩, rfl⟩; have hw := hw.trans (hb.mono hw.size); have B := B.below hb; have b_0 := B.box1; have hsB := World.block_lt_of_cell? _ _ b_0; dsimp only at hsB; clear hb))
      all_goals go_wp2_with fail
      all_goals go_returns
      all_goals exact ⟨by rw [hgood.out]; rfl, hw⟩

end Go.Proofs.Ytklfepnokidnaaa

/- PrintPat of both. -/
namespace Go.Proofs.Ytklfepnokidnaaa
open Go.RowKit
set_option linter.unusedVariables false
set_option linter.unusedSimpArgs false
attribute [local go_sem] Ext.cell

/-- The text of a right pattern, none of what is none. -/
def patText (d : GData) : ByteArray := if patOk d then ptextT d.nodes.length (treeOf d.nodes d.nodes.length 0) else ByteArray.empty
theorem pdata_wf {d : GData} {r : List Value} {lo : Nat} {w : World} (hr : GData.R lo w r d) : ∀ (j : Nat) x, d.nodes[j]? = some x → x.wf := by
  intro j x hx
  obtain ⟨u, rfl, -, hu⟩ := hr
  obtain ⟨a, c, rfl, ul, um, h0⟩ := hu
  have hj := (List.getElem?_eq_some_iff.1 hx).1
  obtain ⟨b, o, y, s, _, _, P, ⟨_, _, hy, _⟩, _⟩ := h0.get (Lib.hid rfl) hj
  obtain rfl : x = y := Option.some.inj (hx.symm.trans P.out)
  exact hy

set_option maxRecDepth 100000 in
set_option maxHeartbeats 4000000 in
theorem impl_PrintPat_c (d : GData) (r : List Value) (lo : Nat) (hbk : d.bulk ≤ 1048576) (w : World) (hr : GData.R lo w r d) :
    Calls Try.prog 20 #[.agg r.toArray] w fun e w' => e = .returned (.string (patText d)) ∧ Below w.heap.size w w' := by
  have hd : d.nodes.length ≤ 1152921504606846976 := by have := length_le_bulkS GDNode.bulk_nonneg d.nodes; unfold GData.bulk at hbk; omega
  have c1 := fun W (hW : Below w.heap.size w W) => PatOk_c d hd r lo W (GData.good.below hr hW)
  unfold patText
  cases hok : patOk d with
  | false =>
    rw [hok] at c1
    obtain ⟨u, rfl, -, hu⟩ := hr
    obtain ⟨a, c, rfl⟩ := hu.form
    clear hu hbk
    replace c1 := Lib.hid c1
    generalize d.nodes.length = n at *
    go_enter Try.func20, Try.ntmps20
    go_upto_region 1 with fail
    have B : RowAt (w.alloc (.cells #[.slice a n c] 41)) (w.heap.size) 0 [.slice a n c] := RowAt.box w #[.slice a n c] 41
    have hw : Below w.heap.size w (w.alloc (.cells #[.slice a n c] 41)) := by go_grown
    generalize (w.alloc (.cells #[.slice a n c] 41)) = w0 at *
    have b_0 := B.box1; have hsB := World.block_lt_of_cell? _ _ b_0; dsimp only at hsB
    go_wp2_with (go_at_call 36; ((with_reducible refine (c1.out _ hw).mono ?_); rintro e w1 ⟨rfl, hb⟩; have hw := hw.trans (hb.mono hw.size); have B := B.below hb; have b_0 := B.box1; have hsB := World.block_lt_of_cell? _ _ b_0; dsimp only at hsB; clear hb))
    go_returns
    exact ⟨rfl, hw⟩
  | true =>
    rw [hok] at c1
    obtain ⟨hU, h0, hL⟩ := patOk_up hok
    have hfew := patOk_few hok
    have htok := treeOf_ptok d.nodes hU ((patOk_parts hok).2.2.2) (pdata_wf hr) d.nodes.length 0 h0 (by omega)
    have hwt := wt_pat hok hbk
    have Hr := hr
    obtain ⟨u, rfl, -, hu⟩ := hr
    have c2 : ∀ W, Below w.heap.size w W → Calls Try.prog 47 #[u, .int .i64 0] W fun e w' => ∃ b, e = .returned (.pointer (some ⟨b, 0, none⟩)) ∧ PxR d.nodes.length (fun b => W.heap.size ≤ b) w' (.pointer (some ⟨b, 0, none⟩)) (treeOf d.nodes d.nodes.length 0) ∧ Below W.heap.size W w' := fun W hW => growPat_c d.nodes hU hfew hL d.nodes.length 0 u lo W (hu.below GDNode.good hW) h0 (by omega)
    have c3 := fun v S W (hW : PxR d.nodes.length S W v (treeOf d.nodes d.nodes.length 0)) => patText_c d.nodes.length S v (treeOf d.nodes d.nodes.length 0) W hW htok hwt
    obtain ⟨a, c, rfl⟩ := hu.form
    clear hu Hr hU hfew hok htok hwt hbk
    generalize d.nodes.length = n at *
    generalize treeOf d.nodes n 0 = t at *
    generalize ptextT n t = dd at *
    replace c1 := Lib.hid c1; replace c2 := Lib.hid c2; replace c3 := Lib.hid c3
    go_enter Try.func20, Try.ntmps20
    go_upto_region 1 with fail
    have B : RowAt (w.alloc (.cells #[.slice a n c] 41)) (w.heap.size) 0 [.slice a n c] := RowAt.box w #[.slice a n c] 41
    have hw : Below w.heap.size w (w.alloc (.cells #[.slice a n c] 41)) := by go_grown
    generalize (w.alloc (.cells #[.slice a n c] 41)) = w0 at *
    have b_0 := B.box1; have hsB := World.block_lt_of_cell? _ _ b_0; dsimp only at hsB
    go_wp2_with (first | (go_at_call 36; ((with_reducible refine (c1.out _ hw).mono ?_); rintro e w1 ⟨rfl, hb⟩; have hw := hw.trans (hb.mono hw.size); have B := B.below hb; have b_0 := B.box1; have hsB := World.block_lt_of_cell? _ _ b_0; dsimp only at hsB; clear hb)) | (go_at_call 47; ((with_reducible refine (c2.out _ hw).mono ?_); rintro e w1 ⟨pb, rfl, hP, hb⟩; have hw := hw.trans (hb.mono hw.size); have B := B.below hb; have b_0 := B.box1; have hsB := World.block_lt_of_cell? _ _ b_0; dsimp only at hsB; clear hb)) | (go_at_call 46; ((with_reducible refine (c3.out _ _ _ hP).mono ?_); rintro e w1 ⟨rfl, hb⟩; have hw := hw.trans (hb.mono hw.size); have B := B.below hb; have b_0 := B.box1; have hsB := World.block_lt_of_cell? _ _ b_0; dsimp only at hsB; clear hb)))
    go_returns
    exact ⟨rfl, hw⟩

set_option maxRecDepth 100000 in
set_option maxHeartbeats 4000000 in
theorem spec_PrintPat_c (d : GData) (r : List Value) (lo : Nat) (hbk : d.bulk ≤ 1048576) (w : World) (hr : GData.R lo w r d) :
    Calls Try.prog 13 #[.agg r.toArray] w fun e w' => e = .returned (.string (patText d)) ∧ Below w.heap.size w w' := by
  have hd : d.nodes.length ≤ 1152921504606846976 := by have := length_le_bulkS GDNode.bulk_nonneg d.nodes; unfold GData.bulk at hbk; omega
  have c1 := fun W (hW : Below w.heap.size w W) => specPatOk_c d hd r lo W (GData.good.below hr hW)
  unfold patText
  cases hok : patOk d with
  | false =>
    rw [hok] at c1
    obtain ⟨u, rfl, -, hu⟩ := hr
    obtain ⟨a, c, rfl⟩ := hu.form
    clear hu hbk
    replace c1 := Lib.hid c1
    generalize d.nodes.length = n at *
    go_enter Try.func13, Try.ntmps13
    go_upto_region 1 with fail
    have B : RowAt (w.alloc (.cells #[.slice a n c] 41)) (w.heap.size) 0 [.slice a n c] := RowAt.box w #[.slice a n c] 41
    have hw : Below w.heap.size w (w.alloc (.cells #[.slice a n c] 41)) := by go_grown
    generalize (w.alloc (.cells #[.slice a n c] 41)) = w0 at *
    have b_0 := B.box1; have hsB := World.block_lt_of_cell? _ _ b_0; dsimp only at hsB
    go_wp2_with (go_at_call 25; ((with_reducible refine (c1.out _ hw).mono ?_); rintro e w1 ⟨rfl, hb⟩; have hw := hw.trans (hb.mono hw.size); have B := B.below hb; have b_0 := B.box1; have hsB := World.block_lt_of_cell? _ _ b_0; dsimp only at hsB; clear hb))
    go_returns
    exact ⟨rfl, hw⟩
  | true =>
    rw [hok] at c1
    obtain ⟨hU, h0, hL⟩ := patOk_up hok
    have htok := treeOf_ptok d.nodes hU ((patOk_parts hok).2.2.2) (pdata_wf hr) d.nodes.length 0 h0 (by omega)
    have hwt := wt_pat hok hbk
    have c2 : ∀ W, Below w.heap.size w W → Calls Try.prog 30 #[.agg r.toArray, .int .i64 0] W fun e w' => e = .returned (.string (ptextT d.nodes.length (treeOf d.nodes d.nodes.length 0))) ∧ Below W.heap.size W w' := fun W hW => l04Pat_c d hU hL d.nodes.length 0 h0 (by omega) htok hwt r lo W (GData.good.below hr hW)
    obtain ⟨u, rfl, -, hu⟩ := hr
    obtain ⟨a, c, rfl⟩ := hu.form
    clear hu hU hok htok hwt hbk
    generalize d.nodes.length = n at *
    generalize ptextT n (treeOf d.nodes n 0) = dd at *
    replace c1 := Lib.hid c1; replace c2 := Lib.hid c2
    go_enter Try.func13, Try.ntmps13
    go_upto_region 1 with fail
    have B : RowAt (w.alloc (.cells #[.slice a n c] 41)) (w.heap.size) 0 [.slice a n c] := RowAt.box w #[.slice a n c] 41
    have hw : Below w.heap.size w (w.alloc (.cells #[.slice a n c] 41)) := by go_grown
    generalize (w.alloc (.cells #[.slice a n c] 41)) = w0 at *
    have b_0 := B.box1; have hsB := World.block_lt_of_cell? _ _ b_0; dsimp only at hsB
    go_wp2_with (first | (go_at_call 25; ((with_reducible refine (c1.out _ hw).mono ?_); rintro e w1 ⟨rfl, hb⟩; have hw := hw.trans (hb.mono hw.size); have B := B.below hb; have b_0 := B.box1; have hsB := World.block_lt_of_cell? _ _ b_0; dsimp only at hsB; clear hb)) | (go_at_call 30; ((with_reducible refine (c2.out _ hw).mono ?_); rintro e w1 ⟨rfl, hb⟩; have hw := hw.trans (hb.mono hw.size); have B := B.below hb; have b_0 := B.box1; have hsB := World.block_lt_of_cell? _ _ b_0; dsimp only at hsB; clear hb)))
    go_returns
    exact ⟨rfl, hw⟩


end Go.Proofs.Ytklfepnokidnaaa
