/- The text of a case: the program's CaseText, right cases. -/
import Derived.Test.YtigacgfaliicaaaCText4
namespace Go.Proofs.Ytigacgfaliicaaa
open Go.RowKit
set_option linter.unusedVariables false
set_option linter.unusedSimpArgs false
attribute [local go_sem] Ext.cell

theorem row_of_block {w w' : World} {b o : Nat} {r : List Value} (h : RowAt w b o r) (e : w'.heap[b]? = w.heap[b]?) : RowAt w' b o r := fun j c hc =>
  (World.cell?_of_block (w := w) (a := ⟨b, o + j, none⟩) e).trans (h j c hc)

theorem own_low {w w' : World} {B base : Nat} {e : TypeId} {size : Nat} {v : Value} {n : Nat} {xs : List Value} (h : w.ownsRow base e size v n xs) (hb : Below B w w') (hg : ∀ g, v.ownBlock = some g → g < B) : w'.ownsRow base e size v n xs := by
  refine ⟨h.1, ?_⟩
  rcases h.2 with h0 | ⟨g, cap, cur, hv, h1, h2, h3⟩
  · exact .inl h0
  · exact .inr ⟨g, cap, cur, hv, h1, by rw [hb.block g (hg g (by rw [hv]; rfl)), h2], h3⟩

set_option maxRecDepth 100000 in
set_option maxHeartbeats 8000000 in
theorem implCText_yes (x : GCase) (r : List Value) (lo : Nat) (hbk : x.bulk ≤ 1048576) (w : World) (hr : GCase.R lo w r x) (hok : caseOk x = true) :
    Calls Try.prog 7 #[.agg r.toArray] w fun e w' => e = .returned (.string (tB (catNl (caseLines x)))) ∧ Below w.heap.size w w' := by
  obtain ⟨pn, pL, pW, pI, plines, pwant⟩ := caseOk_parts hok
  have hlong := line_len hok
  have c1 := fun W (hW : Below w.heap.size w W) => impl_CaseOk_c x r lo hbk W (GCase.good.below hr hW)
  rw [hok] at c1
  obtain ⟨i0, hi0, hz0, hz1, hz2⟩ := info_parts info_str
  have I := Lib.hid hi0; have I0 := Lib.hid hz0; have I1 := Lib.hid hz1; have I2 := Lib.hid hz2
  clear hi0 hz0 hz1 hz2
  obtain ⟨u1, u2, u3, rfl, hwf, a1, a2, a3⟩ := hr
  obtain ⟨la, lc, rfl, ll, lm, h1⟩ := a1
  obtain ⟨ia, ic, rfl, il, im, h2⟩ := a2
  obtain ⟨wa, wk, rfl, wl, wm, h3⟩ := a3
  have hA0 : sA x 0 = [(⟨#[99, 97, 115, 101, 32]⟩ : ByteArray) ++ x.name] := by unfold sA; simp
  have hAl := fun k h => sA_len x k h
  have hNl := fun k h => sN_len x k h
  have hCl := fun k h => sC_len x k h
  have hBl := sB_len x
  have hC0 : sC x 0 = sB x := by unfold sC; simp
  have hB0 : x.inputs.length = 0 → sB x = sA x x.lines.length := fun h => by unfold sB; rw [if_pos h, List.append_nil]
  have hB1 : x.inputs.length ≠ 0 → sB x = sA x x.lines.length ++ [(⟨#[60]⟩ : ByteArray) ++ tB (Lib.join (numsOf x.inputs) [32])] := fun h => by unfold sB; rw [if_neg h]
  have hjl : (Lib.join (numsOf x.inputs) [32]).length ≤ 1050 := by
    have := join_le 20 32 (numsOf x.inputs) (fun y hy => by
      obtain ⟨n, _, rfl⟩ := List.mem_map.1 hy
      exact numText_len20 n)
    have e : (numsOf x.inputs).length = x.inputs.length := by unfold numsOf; simp
    rw [e] at this
    omega
  have hNb := sN_bL x
  have hCb := sC_bL x
  generalize hLL : x.lines.length = L at *
  generalize hII : x.inputs.length = In at *
  generalize hWW : x.want.length = W at *
  replace hLL := Lib.hid hLL; replace hWW := Lib.hid hWW; replace hII := Lib.hid hII; replace h1 := Lib.hid h1; replace h2 := Lib.hid h2; replace h3 := Lib.hid h3
  replace plines := Lib.hid plines; replace pwant := Lib.hid pwant
  replace hA0 := Lib.hid hA0; replace hAl := Lib.hid hAl; replace hNl := Lib.hid hNl; replace hCl := Lib.hid hCl; replace hC0 := Lib.hid hC0; replace hB0 := Lib.hid hB0; replace hB1 := Lib.hid hB1
  replace hNb := Lib.hid hNb; replace hCb := Lib.hid hCb; replace hjl := Lib.hid hjl; replace hlong := Lib.hid hlong
  replace c1 := Lib.hid c1
  clear hok hwf hbk
  generalize hnm : x.name = nm at *
  have l1 : (9223372036854775807 < 5 + nm.size) = False := by simp; omega
  clear hnm
  go_enter Try.func7, Try.ntmps7
  go_upto_region 1 with fail
  have C : RowAt (w.alloc (.cells #[.string nm, .slice la L lc, .slice ia In ic, .slice wa W wk] 28)) (w.heap.size) 0 [.string nm, .slice la L lc, .slice ia In ic, .slice wa W wk] := RowAt.box w #[.string nm, .slice la L lc, .slice ia In ic, .slice wa W wk] 28
  have hw : Below w.heap.size w (w.alloc (.cells #[.string nm, .slice la L lc, .slice ia In ic, .slice wa W wk] 28)) := by go_grown
  generalize (w.alloc (.cells #[.string nm, .slice la L lc, .slice ia In ic, .slice wa W wk] 28)) = w0 at *
  obtain ⟨c_0, c_1, c_2, c_3⟩ := C.box4; have hsC := World.block_lt_of_cell? _ _ c_0; dsimp only at hsC
  go_wp2_with (go_at_call 15; ((with_reducible refine (c1.out _ hw).mono ?_); rintro e w1 ⟨rfl, hb⟩; have hw := hw.trans (hb.mono hw.size); have C := C.below hb; obtain ⟨c_0, c_1, c_2, c_3⟩ := C.box4; have hsC := World.block_lt_of_cell? _ _ c_0; dsimp only at hsC; clear hb))
  go_loopw [3, 21] (fun v i wr => ∃ (k n g cap : Nat), k ≤ L ∧ i = .int .i64 k ∧ v = .slice (some ⟨g, 0, none⟩) n cap ∧ n = k + 1 ∧ wr.ownsRow (w.heap.size + 1) 9 1 v n ((sA x k).map Value.string) ∧ Below w.heap.size w wr ∧ w.heap.size + 1 ≤ wr.heap.size ∧ RowAt wr w.heap.size 0 [.string nm, .slice la L lc, .slice ia In ic, .slice wa W wk]) (fun _ i _ => L - (intOf i).toNat)
  case atStart =>
    have hO := own_new w1 #[.string ((⟨#[99, 97, 115, 101, 32]⟩ : ByteArray) ++ nm)] 9 1 1 rfl (by unfold maxLen; omega) (w.heap.size + 1) hsC
    exact ⟨0, 1, w1.heap.size, 1, by omega, rfl, rfl, rfl, by rw [hA0.out]; exact hO, by go_grown, by simp; omega, C.below (by go_grown)⟩
  case round =>
    clear hw C c_0 c_1 c_2 c_3 hsC
    obtain ⟨k, n, g, cap, hk, rfl, rfl, hn, O, hw, hz, C⟩ := hrel
    obtain ⟨c_0, c_1, c_2, c_3⟩ := C.box4; have hsC := World.block_lt_of_cell? _ _ c_0; dsimp only at hsC
    by_cases hlt : k < L
    · obtain ⟨b1, o1, s, r, _, rfl, P1, ⟨rfl, _⟩, r1⟩ := (h1.out.below StrR.good hw).get (Lib.hid hLL.out.symm) hlt
      have e0 : wr.cell? ⟨b1, o1 + k, none⟩ = some (.string s) := by simpa using r1 0 _ rfl
      have hsz := plines.out s (List.mem_of_getElem? P1.out)
      have hst := sA_step P1.out
      have m1 : (9223372036854775807 < 1 + s.size) = False := by simp; omega
      have hn' : n ≤ 70 := by omega
      replace hn := Lib.hid hn; replace hst := Lib.hid hst; replace O := Lib.hid O
      clear r1 P1
      go_wp2_with (at_builtin; refine wpList_append_lies _ rfl _ _ _ rfl (w.heap.size + 1) 9 i0 _ 1 16 Try.underlying22 I.out I0.out I1.out I2.out rfl (by omega) (.slice (some ⟨g, 0, none⟩) n cap) n ((sA x k).map Value.string) rfl (own_below O.out (by go_grown)) ⟨wr.heap.size, 0, none⟩ 1 1 [.string ((⟨#[62]⟩ : ByteArray) ++ s)] rfl rfl (World.news_of_block (cs := #[.string ((⟨#[62]⟩ : ByteArray) ++ s)]) (t := 9) (fr := (0, 0)) (heap_alloc_new' _ _ _ (by simp))) (by intro u hu; simp at hu; subst hu; rfl) (by omega) (by unfold maxLen; omega) (by omega) (by simp; omega) _ rfl ?_; intro g' cap' w2 hown hgrow hat hlt2)
      have hb2 : Below w.heap.size wr w2 := (below_grown2 (wr := wr) (base := w.heap.size + 1) hgrow (by go_grown) (Below.refl _ wr) hz O.out).mono (by omega)
      have hw2 := hw.trans hb2
      have C2 := row_of_block C (kept_of hgrow (w := wr) (by go_grown) w.heap.size (by omega) (fun e => by have := (own_base O.out _ e.symm).1; omega))
      go_roundw
      case rel => exact ⟨k + 1, n + 1, g', cap', by omega, by go_num, rfl, by have := hn.out; omega, by rw [hst.out, List.map_append]; exact hown, hw2, by have := hb2.size; have := hgrow.size; simp at this; omega, C2⟩
      case measure => simp [intOf]; omega
    · obtain rfl : L = k := by omega
      have hn' : n ≤ 61 := by omega
      have hnL := Lib.hid hn
      clear hn
      replace O := Lib.hid O
      go_upto_region 10 with fail
      obtain ⟨W1, hW1⟩ : ∃ W1, W1 = wr.alloc (.cells #[] 9) := ⟨_, rfl⟩
      have hNO := own_new wr #[] 9 1 0 rfl (by unfold maxLen; omega) wr.heap.size (Nat.le_refl _)
      have hb1 : Below wr.heap.size wr W1 := by rw [hW1]; go_grown
      have hsW : wr.heap.size + 1 = W1.heap.size := by rw [hW1]; simp
      rw [← hW1] at hNO ⊢
      have C := C.below hb1
      have hw := hw.trans (hb1.mono hw.size)
      have O1 := Lib.hid (own_below O.out hb1)
      have hgl : g < wr.heap.size := (own_base O.out g rfl).2
      replace hsW : wr.heap.size + 1 ≤ W1.heap.size := by omega
      clear hW1 hb1 O c_0 c_1 c_2 c_3 hsC
      obtain ⟨c_0, c_1, c_2, c_3⟩ := C.box4; have hsC := World.block_lt_of_cell? _ _ c_0; dsimp only at hsC
      generalize wr.heap.size = B2 at *
      go_wp2_with fail
      go_loopw [6, 35] (fun v i wr => ∃ (k n g cap : Nat), k ≤ In ∧ i = .int .i64 k ∧ v = .slice (some ⟨g, 0, none⟩) n cap ∧ n = k ∧ wr.ownsRow B2 9 1 v n ((sN x k).map Value.string) ∧ Below B2 W1 wr ∧ Below w.heap.size w wr ∧ B2 + 1 ≤ wr.heap.size ∧ RowAt wr w.heap.size 0 [.string nm, .slice la L lc, .slice ia In ic, .slice wa W wk]) (fun _ i _ => In - (intOf i).toNat)
      case atStart => exact ⟨0, 0, B2, 0, by omega, rfl, rfl, rfl, hNO, Below.refl _ _, hw, hsW, C⟩
      case round =>
        clear hw C c_0 c_1 c_2 c_3 hsC hNO hsW
        obtain ⟨k, n2, g2, cap2, hk2, rfl, rfl, hn2, O2, hBW, hw, hz2, C⟩ := hrel
        obtain ⟨c_0, c_1, c_2, c_3⟩ := C.box4; have hsC := World.block_lt_of_cell? _ _ c_0; dsimp only at hsC
        by_cases hlt : k < In
        · obtain ⟨b1, o1, n, r, _, rfl, P1, ⟨rfl, hn64⟩, r1⟩ := (h2.out.below IntR.good hw).get (Lib.hid hII.out.symm) hlt
          have e0 : wr.cell? ⟨b1, o1 + k, none⟩ = some (.int .i64 n) := by simpa using r1 0 _ rfl
          have c5 := fun W => impl_NumText_c n hn64 W
          have hst := sN_step P1.out
          generalize numText n = t at *
          have hn2' : n2 ≤ 70 := by omega
          replace hn2 := Lib.hid hn2; replace hst := Lib.hid hst; replace O2 := Lib.hid O2
          clear r1 P1
          go_wp2_with (first | (go_at_call 16; ((with_reducible refine (c5 _).mono ?_); rintro e w5 ⟨rfl, hb⟩; have hs5 := hb.size)) | (at_builtin; refine wpList_append_lies _ rfl _ _ _ rfl (B2) 9 i0 _ 1 16 Try.underlying22 I.out I0.out I1.out I2.out rfl (by omega) (.slice (some ⟨g2, 0, none⟩) n2 cap2) n2 ((sN x k).map Value.string) rfl (own_below O2.out (by go_grown)) ⟨w5.heap.size, 0, none⟩ 1 1 [.string (t)] rfl rfl (World.news_of_block (cs := #[.string (t)]) (t := 9) (fr := (0, 0)) (heap_alloc_new' _ _ _ (by simp))) (by intro u hu; simp at hu; subst hu; rfl) (by omega) (by unfold maxLen; omega) (by omega) (by simp; omega) _ rfl ?_; intro g' cap' w2 hown hgrow hat hlt2))
          have hbB : Below B2 wr w2 := below_grown2 (wr := wr) (base := B2) hgrow (by go_grown) (Below.refl _ wr) (by omega) O2.out
          have hC2 := hbB.block w.heap.size (by omega)
          have C2 := row_of_block C hC2
          go_roundw
          case rel => exact ⟨k + 1, n2 + 1, g', cap', by omega, by go_num, rfl, by have := hn2.out; omega, by rw [hst.out, List.map_append]; exact hown, hBW.trans hbB, hw.trans (hbB.mono (by omega)), by have := hgrow.size; simp at this; omega, C2⟩
          case measure => simp [intOf]; omega
        · obtain rfl : In = k := by omega
          have O3 := Lib.hid (own_low O1.out hBW (by simpa [Value.ownBlock] using hgl))
          have hn2' : n2 ≤ 61 := by omega
          clear O1
          replace O2 := Lib.hid O2
          replace hn2 := Lib.hid hn2
          go_upto_if 47 with fail
          go_cut [3] (fun sx wx => ∃ (n g cap : Nat), sx = .slice (some ⟨g, 0, none⟩) n cap ∧ n = (sB x).length ∧ wx.ownsRow (w.heap.size + 1) 9 1 sx n ((sB x).map Value.string) ∧ Below w.heap.size w wx ∧ w.heap.size + 1 ≤ wx.heap.size ∧ RowAt wx w.heap.size 0 [.string nm, .slice la L lc, .slice ia In ic, .slice wa W wk])
          case first =>
            by_cases hI0 : In = 0
            · have hN0 : n2 = 0 := by have := hn2.out; omega
              subst hN0
              go_wp2_with fail
              go_meet
              exact ⟨n, g, cap, rfl, by rw [hB0.out hI0, hAl.out _ (Nat.le_refl _)]; exact hnL.out, by rw [hB0.out hI0]; exact O3.out, hw, by omega, C⟩
            · have hN0 : 0 < n2 := by have := hn2.out; omega
              have hsl : (sN x In).length = n2 := by rw [hNl.out _ (Nat.le_refl _)]; exact hn2.out.symm
              have hp : 0 < (sN x In).length := by rw [hsl]; have := hn2.out; omega
              have cj : ∀ W, Below wr.heap.size wr W → Calls Try.prog 17 #[.slice (some ⟨g2, 0, none⟩) n2 cap2, .string ⟨#[32]⟩] W fun e w' => e = .returned (.string (tB (Lib.join (numsOf x.inputs) [32]))) ∧ Below W.heap.size W w' := by
                intro W hW
                have hO2 : W.ownsRow B2 9 1 (.slice (some ⟨g2, 0, none⟩) (sN x In).length cap2) (sN x In).length ((sN x In).map Value.string) := by rw [hsl]; exact own_below O2.out hW
                obtain ⟨hc, hgs, hcap⟩ := own_texts hO2 hp
                have hbb : (sN x In).map (·.data.toList) = numsOf x.inputs := hNb.out
                have hj := Try.strings_Join g2 0 cap2 (sN x In) ⟨#[32]⟩ W hc hgs (by omega) hcap (by rw [hbb]; exact Nat.le_trans hjl.out (by omega))
                rw [hsl, hbb] at hj
                exact hj
              have hjs : (tB (Lib.join (numsOf x.inputs) [32])).size ≤ 1050 := hjl.out
              have hB1' := hB1.out hI0
              generalize tB (Lib.join (numsOf x.inputs) [32]) = J at *
              have m1 : (9223372036854775807 < 1 + J.size) = False := by simp; omega
              replace cj := Lib.hid cj; replace hB1' := Lib.hid hB1'; replace hsl := Lib.hid hsl
              clear hB0 hB1 hjl hNb
              go_wp2_with (first | (go_at_call 17; ((with_reducible refine (cj.out _ (by first | exact Below.refl _ _ | go_grown)).mono ?_); rintro e w5 ⟨rfl, hb⟩; have hs5 := hb.size)) | (at_builtin; refine wpList_append_lies _ rfl _ _ _ rfl (w.heap.size + 1) 9 i0 _ 1 16 Try.underlying22 I.out I0.out I1.out I2.out rfl (by omega) (.slice (some ⟨g, 0, none⟩) n cap) n ((sA x L).map Value.string) rfl (own_below O3.out (by go_grown)) ⟨w5.heap.size, 0, none⟩ 1 1 [.string ((⟨#[60]⟩ : ByteArray) ++ J)] rfl rfl (World.news_of_block (cs := #[.string ((⟨#[60]⟩ : ByteArray) ++ J)]) (t := 9) (fr := (0, 0)) (heap_alloc_new' _ _ _ (by simp))) (by intro u hu; simp at hu; subst hu; rfl) (by omega) (by unfold maxLen; omega) (by omega) (by simp; omega) _ rfl ?_; intro g' cap' w2 hown hgrow hat hlt2))
              have hb2 : Below w.heap.size wr w2 := (below_grown2 (wr := wr) (base := w.heap.size + 1) hgrow (by go_grown) (Below.refl _ wr) (by omega) O3.out).mono (by omega)
              have C2 := row_of_block C (kept_of hgrow (w := wr) (by go_grown) w.heap.size (by omega) (fun e => by have := (own_base O3.out _ e.symm).1; omega))
              go_meet
              exact ⟨n + 1, g', cap', rfl, by rw [hB1'.out, List.length_append, hAl.out _ (Nat.le_refl _)]; have := hnL.out; simp; omega, by rw [hB1'.out, List.map_append]; exact hown, hw.trans hb2, by have := hb2.size; omega, C2⟩
          case rest =>
            clear hw C c_0 c_1 c_2 c_3 hsC O3 O2 hn2 hnL hBW hz2 hgl hNb hjl hB0 hB1 hNl hAl
            obtain ⟨n3, g3, cap3, rfl, hn3, O, hw, hz3, C⟩ := hcut
            obtain ⟨c_0, c_1, c_2, c_3⟩ := C.box4; have hsC := World.block_lt_of_cell? _ _ c_0; dsimp only at hsC
            have hn3' : n3 ≤ 62 := by omega
            replace hn3 := Lib.hid hn3; replace O := Lib.hid O
            go_wp2_with fail
            go_loopw [3, 57] (fun v i wr => ∃ (k n g cap : Nat), k ≤ W ∧ i = .int .i64 k ∧ v = .slice (some ⟨g, 0, none⟩) n cap ∧ n = n3 + k ∧ wr.ownsRow (w.heap.size + 1) 9 1 v n ((sC x k).map Value.string) ∧ Below w.heap.size w wr ∧ w.heap.size + 1 ≤ wr.heap.size ∧ RowAt wr w.heap.size 0 [.string nm, .slice la L lc, .slice ia In ic, .slice wa W wk]) (fun _ i _ => W - (intOf i).toNat)
            case atStart => exact ⟨0, n3, g3, cap3, by omega, rfl, rfl, rfl, by rw [hC0.out]; exact O.out, hw, hz3, C⟩
            case round =>
              clear hw C c_0 c_1 c_2 c_3 hsC O hz3
              obtain ⟨k, n, g, cap, hk, rfl, rfl, hn, O, hw, hz, C⟩ := hrel
              obtain ⟨c_0, c_1, c_2, c_3⟩ := C.box4; have hsC := World.block_lt_of_cell? _ _ c_0; dsimp only at hsC
              by_cases hlt : k < W
              · obtain ⟨b1, o1, s, r, _, rfl, P1, ⟨rfl, _⟩, r1⟩ := (h3.out.below StrR.good hw).get (Lib.hid hWW.out.symm) hlt
                have e0 : wr.cell? ⟨b1, o1 + k, none⟩ = some (.string s) := by simpa using r1 0 _ rfl
                have hsz := pwant.out s (List.mem_of_getElem? P1.out)
                have hst := sC_step P1.out
                have m1 : (9223372036854775807 < 1 + s.size) = False := by simp; omega
                have hn' : n ≤ 130 := by omega
                replace hn := Lib.hid hn; replace hst := Lib.hid hst; replace O := Lib.hid O
                clear r1 P1
                go_wp2_with (at_builtin; refine wpList_append_lies _ rfl _ _ _ rfl (w.heap.size + 1) 9 i0 _ 1 16 Try.underlying22 I.out I0.out I1.out I2.out rfl (by omega) (.slice (some ⟨g, 0, none⟩) n cap) n ((sC x k).map Value.string) rfl (own_below O.out (by go_grown)) ⟨wr.heap.size, 0, none⟩ 1 1 [.string ((⟨#[61]⟩ : ByteArray) ++ s)] rfl rfl (World.news_of_block (cs := #[.string ((⟨#[61]⟩ : ByteArray) ++ s)]) (t := 9) (fr := (0, 0)) (heap_alloc_new' _ _ _ (by simp))) (by intro u hu; simp at hu; subst hu; rfl) (by omega) (by unfold maxLen; omega) (by omega) (by simp; omega) _ rfl ?_; intro g' cap' w2 hown hgrow hat hlt2)
                have hb2 : Below w.heap.size wr w2 := (below_grown2 (wr := wr) (base := w.heap.size + 1) hgrow (by go_grown) (Below.refl _ wr) hz O.out).mono (by omega)
                have hw2 := hw.trans hb2
                have C2 := row_of_block C (kept_of hgrow (w := wr) (by go_grown) w.heap.size (by omega) (fun e => by have := (own_base O.out _ e.symm).1; omega))
                go_roundw
                case rel => exact ⟨k + 1, n + 1, g', cap', by omega, by go_num, rfl, by have := hn.out; omega, by rw [hst.out, List.map_append]; exact hown, hw2, by have := hb2.size; have := hgrow.size; simp at this; omega, C2⟩
                case measure => simp [intOf]; omega
              · obtain rfl : W = k := by omega
                have hn' : n ≤ 130 := by omega
                have hlen : (sC x W).length = n := by rw [hCl.out _ (Nat.le_refl _)]; have := hn3.out; omega
                have hend : tB (catNl (caseLines x)) = tB (Lib.join (caseLines x) [10]) ++ (⟨#[10]⟩ : ByteArray) := by
                  rw [tB_append]
                  congr 1
                  cases hq : caseLines x with
                  | nil => have := congrArg List.length hCb.out; rw [hq] at this; simp at this
                  | cons a r => exact (join_nl r a).symm
                have cj : ∀ (W2 : World) (g' cap' : Nat), W2.ownsRow (w.heap.size + 1) 9 1 (.slice (some ⟨g', 0, none⟩) (n + 1) cap') (n + 1) ((sC x W).map Value.string ++ [.string (⟨#[101, 110, 100]⟩ : ByteArray)]) →
                    Calls Try.prog 17 #[.slice (some ⟨g', 0, none⟩) (n + 1) cap', .string ⟨#[10]⟩] W2 fun e w' => e = .returned (.string (tB (Lib.join (caseLines x) [10]))) ∧ Below W2.heap.size W2 w' := by
                  intro W2 g' cap' hO
                  have e1 : (sC x W ++ [(⟨#[101, 110, 100]⟩ : ByteArray)]).length = n + 1 := by rw [List.length_append, hlen]; rfl
                  have hO2 : W2.ownsRow (w.heap.size + 1) 9 1 (.slice (some ⟨g', 0, none⟩) (sC x W ++ [(⟨#[101, 110, 100]⟩ : ByteArray)]).length cap') (sC x W ++ [(⟨#[101, 110, 100]⟩ : ByteArray)]).length ((sC x W ++ [(⟨#[101, 110, 100]⟩ : ByteArray)]).map Value.string) := by
                    rw [e1, List.map_append]; exact hO
                  obtain ⟨hc, hgs, hcap⟩ := own_texts hO2 (by rw [e1]; omega)
                  have hbb : (sC x W ++ [(⟨#[101, 110, 100]⟩ : ByteArray)]).map (·.data.toList) = caseLines x := hCb.out
                  have hj := Try.strings_Join g' 0 cap' (sC x W ++ [(⟨#[101, 110, 100]⟩ : ByteArray)]) ⟨#[10]⟩ W2 hc hgs (by omega) hcap (by rw [hbb]; exact Nat.le_trans hlong.out (by omega))
                  rw [e1, hbb] at hj
                  exact hj
                have hjs : (tB (Lib.join (caseLines x) [10])).size ≤ 200000 := hlong.out
                generalize tB (Lib.join (caseLines x) [10]) = J at *
                have m1 : (9223372036854775807 < J.size + 1) = False := by simp; omega
                replace cj := Lib.hid cj; replace hn := Lib.hid hn; replace O := Lib.hid O; replace hlen := Lib.hid hlen; replace hend := Lib.hid hend
                clear hlong hCb hjs
                go_wp2_with (first | (go_at_call 17; ((with_reducible refine (cj.out _ _ _ hown).mono ?_); rintro e w5 ⟨rfl, hb⟩; have hs5 := hb.size)) | (at_builtin; refine wpList_append_lies _ rfl _ _ _ rfl (w.heap.size + 1) 9 i0 _ 1 16 Try.underlying22 I.out I0.out I1.out I2.out rfl (by omega) (.slice (some ⟨g, 0, none⟩) n cap) n ((sC x W).map Value.string) rfl (own_below O.out (by go_grown)) ⟨wr.heap.size, 0, none⟩ 1 1 [.string (⟨#[101, 110, 100]⟩ : ByteArray)] rfl rfl (World.news_of_block (cs := #[.string (⟨#[101, 110, 100]⟩ : ByteArray)]) (t := 9) (fr := (0, 0)) (heap_alloc_new' _ _ _ (by simp))) (by intro u hu; simp at hu; subst hu; rfl) (by omega) (by unfold maxLen; omega) (by omega) (by simp; omega) _ rfl ?_; intro g' cap' w2 hown hgrow hat hlt2))
                have hb2 : Below w.heap.size wr w2 := (below_grown2 (wr := wr) (base := w.heap.size + 1) hgrow (by go_grown) (Below.refl _ wr) hz O.out).mono (by omega)
                go_returns
                exact ⟨by rw [hend.out]; rfl, (hw.trans hb2).trans (hb.mono (by have := hb2.size; have := hw.size; omega))⟩

end Go.Proofs.Ytigacgfaliicaaa
