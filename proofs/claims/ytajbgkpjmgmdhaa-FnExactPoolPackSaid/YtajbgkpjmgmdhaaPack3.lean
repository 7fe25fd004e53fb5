/- impl.packed: the walk. -/
import Derived.Test.YtajbgkpjmgmdhaaPack2
namespace Go.Proofs.Ytajbgkpjmgmdhaa
open Go.RowKit
set_option linter.unusedVariables false
set_option linter.unusedSimpArgs false
attribute [local go_sem] Ext.cell

theorem movedP_wf {at_ : List Int} (h : ∀ x ∈ at_, I64 x) {v : GVal} (hv : v.wf) : (movedP at_ v).wf := by
  unfold movedP
  split
  · refine ⟨by constructor <;> simp, ?_, hv.2.2⟩
    rw [List.getD_eq_getElem?_getD]
    cases e : at_[v.n.toNat]? with
    | none => constructor <;> simp
    | some x => exact h x (List.mem_of_getElem? e)
  · exact hv
theorem cellMoved_wf {at_ : List Int} (h : ∀ x ∈ at_, I64 x) {c : GCell} (hc : c.wf) : (cellMoved at_ c).wf := by
  obtain ⟨h1, h2, h3, h4, h5, h6, h7, h8, h9⟩ := hc
  have ha := movedP_wf h (v := c.a) ⟨h4, h5, h6⟩
  have hb := movedP_wf h (v := c.b) ⟨h7, h8, h9⟩
  exact ⟨h1, h2, h3, ha.1, ha.2.1, ha.2.2, hb.1, hb.2.1, hb.2.2⟩
theorem RowAt.setAt {w : World} {b j : Nat} {r : List Value} (h : RowAt w b 0 r) (hj : j < r.length) (u : Value) : RowAt (w.setCell ⟨b, j, none⟩ u) b 0 (r.set j u) := fun i c hc => by
  have h' := h
  rw [Nat.zero_add]
  by_cases e : j = i
  · subst e
    rw [List.getElem?_set_self hj] at hc
    obtain rfl := Option.some.inj hc
    have := h j _ (List.getElem?_eq_getElem hj)
    rw [Nat.zero_add] at this
    exact cell_setCell_eq w b j _ this
  · rw [List.getElem?_set_ne e] at hc
    have := h i c hc
    rw [Nat.zero_add] at this
    exact (cell_setCell_ne w b j i _ e).trans this
/-- A value behind the first k of a list's map. -/
theorem take_map_snoc {α β : Type} {f : α → β} {l : List α} {k : Nat} {x : α} (h : l[k]? = some x) : (l.map f).take (k + 1) = (l.map f).take k ++ [f x] := take_snoc' (by rw [List.getElem?_map, h]; rfl)

theorem row_two {w : World} {b : Nat} {a0 a1 a2 a3 a4 a5 a6 a7 a8 : Value} (D : RowAt w b 0 [a0, a1, a2, a3, a4, a5, a6, a7, a8]) (u3 u4 u5 u6 u7 u8 : Value) :
    RowAt ((((((w.setCell ⟨b, 3, none⟩ u3).setCell ⟨b, 4, none⟩ u4).setCell ⟨b, 5, none⟩ u5).setCell ⟨b, 6, none⟩ u6).setCell ⟨b, 7, none⟩ u7).setCell ⟨b, 8, none⟩ u8) b 0 [a0, a1, a2, u3, u4, u5, u6, u7, u8] :=
  (((((D.setAt (j := 3) (by simp) u3).setAt (j := 4) (by simp) u4).setAt (j := 5) (by simp) u5).setAt (j := 6) (by simp) u6).setAt (j := 7) (by simp) u7).setAt (j := 8) (by simp) u8
theorem below_two {w0 w : World} {lo b : Nat} (h : Below lo w0 w) (hb : lo ≤ b) (u3 u4 u5 u6 u7 u8 : Value) :
    Below lo w0 ((((((w.setCell ⟨b, 3, none⟩ u3).setCell ⟨b, 4, none⟩ u4).setCell ⟨b, 5, none⟩ u5).setCell ⟨b, 6, none⟩ u6).setCell ⟨b, 7, none⟩ u7).setCell ⟨b, 8, none⟩ u8) :=
  (((((h.setCell (p := ⟨b, 3, none⟩) hb u3).setCell (p := ⟨b, 4, none⟩) hb u4).setCell (p := ⟨b, 5, none⟩) hb u5).setCell (p := ⟨b, 6, none⟩) hb u6).setCell (p := ⟨b, 7, none⟩) hb u7).setCell (p := ⟨b, 8, none⟩) hb u8
theorem kept_two {w : World} {b : Nat} (u3 u4 u5 u6 u7 u8 : Value) :
    Kept (· = b) w ((((((w.setCell ⟨b, 3, none⟩ u3).setCell ⟨b, 4, none⟩ u4).setCell ⟨b, 5, none⟩ u5).setCell ⟨b, 6, none⟩ u6).setCell ⟨b, 7, none⟩ u7).setCell ⟨b, 8, none⟩ u8) :=
  Kept.set (S := (· = b)) (p := ⟨b, 8, none⟩) (Kept.set (S := (· = b)) (p := ⟨b, 7, none⟩) (Kept.set (S := (· = b)) (p := ⟨b, 6, none⟩) (Kept.set (S := (· = b)) (p := ⟨b, 5, none⟩) (Kept.set (S := (· = b)) (p := ⟨b, 4, none⟩) (Kept.set (S := (· = b)) (p := ⟨b, 3, none⟩) (Kept.refl _ _) rfl _) rfl _) rfl _) rfl _) rfl _) rfl _

def PkPost (w : World) (h : List GCell) (roots : List GVal) (e : Ending) (w' : World) : Prop :=
  ∃ v0 v1, e = .returned (.tuple #[v0, v1]) ∧ OwnCells w.heap.size w' v0 (packedC h roots) ∧ OwnVals w.heap.size w' v1 (packedV h roots) ∧ (∀ g, v0.ownBlock = some g → v1.ownBlock ≠ some g) ∧ Below w.heap.size w w'
set_option maxRecDepth 100000 in
set_option maxHeartbeats 8000000 in
theorem packed_c (h : List GCell) (roots : List GVal) (u0 u1 : Value) (lo0 lo1 : Nat) (H : HeapIn h roots) (hh : h.length ≤ 1048576) (hr : roots.length ≤ 1048576) (w : World) (hx0 : Sl GCell.R 9 lo0 w u0 h) (hx1 : Sl GVal.R 3 lo1 w u1 roots) :
    Calls Try.prog 62 #[u0, u1] w (PkPost w h roots) := by
  have c1 := fun W (hW : Below w.heap.size w W) => copied_c h roots _ _ lo0 lo1 H hh hr W (hx0.below GCell.good hW) (hx1.below GVal.good hW)
  obtain ⟨a0, c0, rfl, l0, m0, h0⟩ := hx0
  obtain ⟨a1, cc1, rfl, l1, m1, h1⟩ := hx1
  have hwf0 : ∀ c ∈ h, c.wf := flatCell.wfs (h0.sl rfl l0 m0)
  have hwf1 : ∀ c ∈ roots, c.wf := flatVal.wfs (h1.sl rfl l1 m1)
  obtain ⟨n, hn⟩ : ∃ n, n = h.length := ⟨_, rfl⟩
  obtain ⟨m, hm⟩ : ∃ n, n = roots.length := ⟨_, rfl⟩
  rw [← hn] at l0 hh c1 ⊢
  rw [← hm] at l1 hr c1 ⊢
  obtain ⟨i0, hi0, hz0, hz1, hz2⟩ := info_parts info_CellS
  have I := Lib.hid hi0; have I0 := Lib.hid hz0; have I1 := Lib.hid hz1; have I2 := Lib.hid hz2
  clear hi0 hz0 hz1 hz2
  obtain ⟨j0, hi0, hz0, hz1, hz2⟩ := info_parts info_ValS
  have J := Lib.hid hi0; have J0 := Lib.hid hz0; have J1 := Lib.hid hz1; have J2 := Lib.hid hz2
  clear hi0 hz0 hz1 hz2
  replace hn := Lib.hid hn; replace hm := Lib.hid hm; replace h0 := Lib.hid h0; replace h1 := Lib.hid h1; replace H := Lib.hid H; replace c1 := Lib.hid c1
  replace hwf0 := Lib.hid hwf0; replace hwf1 := Lib.hid hwf1
  go_enter Try.func62, Try.ntmps62
  go_upto_region 2 with (go_at_call 58; (with_reducible refine (c1.out _ (Below.refl _ _)).mono ?_); rintro en w1 ⟨v0, v1, rfl, OO, OA, BL, hb⟩)
  have hPC : packedC h roots = (copiedP h roots).1.map fun x => cellMoved (copiedP h roots).2 (h.getD x.toNat zeroG) := rfl
  have hPV : packedV h roots = roots.map (movedP (copiedP h roots).2) := rfl
  have hlA := BL.inv.len
  have hord := BL.inv.ord
  have hle := BL.inv.le
  have hkeep : Hid (BLoop h roots (copiedP h roots).1.length (copiedP h roots)) := BL
  generalize (copiedP h roots).1 = ord at *
  generalize (copiedP h roots).2 = at_ at *
  have SO := OO.sl flatInt; have SA := OA.sl flatInt
  have hA64 : Hid (∀ x ∈ at_, I64 x) := OA.2
  obtain ⟨oa, oc, rfl, ol, om, hO⟩ := SO
  obtain ⟨ra, rc, rfl⟩ := SA.form
  obtain ⟨q, hq⟩ : ∃ q, q = ord.length := ⟨_, rfl⟩
  rw [← hn.out] at hle
  rw [← hq] at ol hle ⊢
  rw [hlA, ← hn.out] at SA ⊢
  replace hq := Lib.hid hq; replace hO := Lib.hid hO; replace SA := Lib.hid SA; replace hord := Lib.hid hord; replace hPC := Lib.hid hPC; replace hPV := Lib.hid hPV; replace hlA := Lib.hid hlA
  clear BL OO OA c1
  have hsz := hb.size
  obtain ⟨w2, hW2⟩ : ∃ W, W = w1.alloc (.cells #[] 30) := ⟨_, rfl⟩
  have OC : OwnCells w1.heap.size w2 (.slice (some ⟨w1.heap.size, 0, none⟩) 0 0) [] := ⟨by
    have h1 := own_new w1 #[] 30 9 0 rfl (by unfold maxLen; omega) w1.heap.size (Nat.le_refl _)
    rw [hW2]; simpa [rowsOf] using h1, fun x hx => by cases hx⟩
  have hb2 : Below w1.heap.size w1 w2 := by rw [hW2]; go_grown
  go_upto_region 3 with fail
  rw [← hW2]
  clear hW2
  replace OC := Lib.hid OC
  go_wp2_with fail
  go_loopw [24, 8] (fun ii cv wr => ∃ (k : Nat) (v : Value), k ≤ q ∧ ii = .int .i64 k ∧ cv = v ∧ Below w1.heap.size w1 wr ∧ OwnCells w1.heap.size wr v ((packedC h roots).take k)) (fun ii _ _ => q - (intOf ii).toNat)
  case atStart => exact ⟨0, _, by omega, rfl, rfl, hb2, OC.out⟩
  case round =>
    clear hb2 OC
    obtain ⟨k, v, hk, rfl, rfl, hwr, OC⟩ := hrel
    have hsr := hwr.size
    have hlC : (packedC h roots).length = q := by rw [hPC.out, List.length_map]; exact hq.out.symm
    by_cases hlt : k < q
    · obtain ⟨b2, o2, x, s2, _, rfl, P2, ⟨rfl, hx64⟩, r2⟩ := (hO.out.below IntR.good hwr).get hq hlt
      rw [Nat.mul_one] at r2
      have R2 := r2.cells1
      obtain ⟨j, rfl, hjn, hRj⟩ := hord.out x (List.mem_of_getElem? P2.out)
      rw [← hn.out] at hjn
      obtain ⟨b1, o1, c, s1, _, rfl, P1, ⟨rfl, hwf⟩, r1⟩ := h0.out.get hn hjn
      have hcm := List.mem_of_getElem? P1.out
      have hcc := H.out.cells c hcm
      rw [← hlA.out] at hcc
      have hst : (packedC h roots).take (k + 1) = (packedC h roots).take k ++ [cellMoved at_ c] := by
        rw [hPC.out, take_map_snoc P2.out]
        congr 2
        rw [Int.toNat_natCast, List.getD_eq_getElem?_getD, P1.out]; rfl
      obtain ⟨R0, Ra1, Ra2, Ra3, Ra4, Ra5, Ra6, Ra7, Ra8⟩ := (r1.below (hb.trans (hwr.mono hsz))).cells9
      have hlO : ((packedC h roots).take k).length = k := by rw [List.length_take]; omega
      obtain ⟨va, vc, rfl⟩ := OC.form
      rw [hlO] at OC
      replace OC := Lib.hid OC
      replace hst := Lib.hid hst; replace hlC := Lib.hid hlC; replace hlO := Lib.hid hlO; replace hwf := Lib.hid hwf
      clear r1 hx64
      go_upto_region 7 with fail
      obtain ⟨w3, hW3⟩ : ∃ W, W = wr.alloc (.cells #[.int .i64 c.kind, .int .i64 c.n, .string c.s, .int .i64 c.a.kind, .int .i64 c.a.n, .string c.a.s, .int .i64 c.b.kind, .int .i64 c.b.n, .string c.b.s] 30) := ⟨_, rfl⟩
      rw [hlO.out, ← hW3]
      have hb3 : Below wr.heap.size wr w3 := by rw [hW3]; go_grown
      have D : RowAt w3 wr.heap.size 0 [.int .i64 c.kind, .int .i64 c.n, .string c.s, .int .i64 c.a.kind, .int .i64 c.a.n, .string c.a.s, .int .i64 c.b.kind, .int .i64 c.b.n, .string c.b.s] := by rw [hW3]; exact RowAt.box wr #[_, _, _, _, _, _, _, _, _] _
      have DW : Wr w3 wr.heap.size 0 9 := by rw [hW3]; exact Wr.box wr #[_, _, _, _, _, _, _, _, _] _
      clear hW3 R0 Ra1 Ra2 Ra3 Ra4 Ra5 Ra6 Ra7 Ra8 R2
      generalize hbD : wr.heap.size = bD at *
      have hs3 : bD < w3.heap.size := World.block_lt_of_cell? _ _ D.box9.1
      have hw13 : Below w1.heap.size w1 w3 := hwr.trans (hb3.mono hsr)
      have cA := fun W (hW : Below w3.heap.size w3 W) => moved_c c.a at_ _ _ hcc.1 W ((SA.out.below IntR.good hw13).below IntR.good hW)
      have cB := fun W (hW : Below w3.heap.size w3 W) => moved_c c.b at_ _ _ hcc.2 W ((SA.out.below IntR.good hw13).below IntR.good hW)
      replace cA := Lib.hid cA; replace cB := Lib.hid cB; replace hcc := Lib.hid hcc
      obtain ⟨d_0, d_1, d_2, d_3, d_4, d_5, d_6, d_7, d_8⟩ := D.box9
      go_region_law (go_simp; go_at_call 80; (first
        | ((with_reducible refine (cA.out _ (by go_grown)).mono ?_); rintro e w4 ⟨rfl, hbk⟩; have hb4 : Below w3.heap.size w3 w4 := Below.trans (by go_grown) (hbk.mono (by first | exact Nat.le_refl _ | simp)); have D4 := D.below hb4; obtain ⟨e_0, e_1, e_2, e_3, e_4, e_5, e_6, e_7, e_8⟩ := D4.box9)
        | ((with_reducible refine (cB.out _ (hb4.trans (by go_grown))).mono ?_); rintro e w5 ⟨rfl, hbk⟩; have hb5 : Below w3.heap.size w3 w5 := (hb4.trans (by go_grown)).trans (hbk.mono (by first | exact Nat.le_refl _ | exact hb4.size | (have := hb4.size; simp only [World.size_drew]; omega))); have D5 := D.below hb5; have DW5 := DW.below hb5; obtain ⟨g_0, g_1, g_2, g_3, g_4, g_5, g_6, g_7, g_8⟩ := D5.box9; have f_3 := DW5.frz 3 (by omega); have f_4 := DW5.frz 4 (by omega); have f_5 := DW5.frz 5 (by omega); have f_6 := DW5.frz 6 (by omega); have f_7 := DW5.frz 7 (by omega); have f_8 := DW5.frz 8 (by omega))))
      all_goals
        obtain ⟨w6, hW6⟩ : ∃ W, W = (((((w5.setCell ⟨bD, 3, none⟩ (.int .i64 (movedP at_ c.a).kind)).setCell ⟨bD, 4, none⟩ (.int .i64 (movedP at_ c.a).n)).setCell ⟨bD, 5, none⟩ (.string (movedP at_ c.a).s)).setCell ⟨bD, 6, none⟩ (.int .i64 (movedP at_ c.b).kind)).setCell ⟨bD, 7, none⟩ (.int .i64 (movedP at_ c.b).n)).setCell ⟨bD, 8, none⟩ (.string (movedP at_ c.b).s) := ⟨_, rfl⟩
        rw [← hW6]
        have D6 : RowAt w6 bD 0 [.int .i64 c.kind, .int .i64 c.n, .string c.s, .int .i64 (movedP at_ c.a).kind, .int .i64 (movedP at_ c.a).n, .string (movedP at_ c.a).s, .int .i64 (movedP at_ c.b).kind, .int .i64 (movedP at_ c.b).n, .string (movedP at_ c.b).s] := by rw [hW6]; exact row_two D5 _ _ _ _ _ _
        have hs5 := hb5.size
        have hb6 : Below bD wr w6 := by rw [hW6]; exact below_two (hb3.trans (hb5.mono (by omega))) (Nat.le_refl _) _ _ _ _ _ _
        clear hW6 D4 D5 D DW DW5 d_0 d_1 d_2 d_3 d_4 d_5 d_6 d_7 d_8 e_0 e_1 e_2 e_3 e_4 e_5 e_6 e_7 e_8 g_0 g_1 g_2 g_3 g_4 g_5 g_6 g_7 g_8 f_3 f_4 f_5 f_6 f_7 f_8 hb4 hb5 hs5 hbk cA cB
        obtain ⟨d_0, d_1, d_2, d_3, d_4, d_5, d_6, d_7, d_8⟩ := D6.box9
        have OC6 : Hid (OwnCells w1.heap.size w6 (.slice va k vc) ((packedC h roots).take k)) := OC.out.below (hbD.symm ▸ hb6)
        have hw16 : Below w1.heap.size w1 w6 := hwr.trans (hb6.mono hsr)
        have hs16 := hw16.size
        have hwfm := Lib.hid (cellMoved_wf hA64.out hwf.out)
        have hown6 : Hid (w6.ownsRow w1.heap.size 30 9 (.slice va k vc) k (rowsOf cellRow ((packedC h roots).take k))) := by have h' := OC6.out.1; rw [hlO.out] at h'; exact h'
        go_wp2_with (at_builtin; refine wpList_append_lies _ rfl _ _ _ rfl w1.heap.size 30 i0 _ 9 96 Try.underlying23 I.out I0.out I1.out I2.out rfl (by omega) (.slice va k vc) k (rowsOf cellRow ((packedC h roots).take k)) rfl (own_below hown6.out (by go_grown)) ⟨w6.heap.size, 0, none⟩ 1 1 [.int .i64 c.kind, .int .i64 c.n, .string c.s, .int .i64 (movedP at_ c.a).kind, .int .i64 (movedP at_ c.a).n, .string (movedP at_ c.a).s, .int .i64 (movedP at_ c.b).kind, .int .i64 (movedP at_ c.b).n, .string (movedP at_ c.b).s] rfl rfl (World.news_of_block (cs := #[.int .i64 c.kind, .int .i64 c.n, .string c.s, .int .i64 (movedP at_ c.a).kind, .int .i64 (movedP at_ c.a).n, .string (movedP at_ c.a).s, .int .i64 (movedP at_ c.b).kind, .int .i64 (movedP at_ c.b).n, .string (movedP at_ c.b).s]) (t := 30) (fr := (0, 0)) (heap_alloc_new' _ _ _ (by simp))) (by intro u hu; simp at hu; rcases hu with rfl | rfl | rfl | rfl | rfl | rfl | rfl | rfl | rfl <;> rfl) (by omega) (by unfold maxLen; omega) (by omega) (by simp; omega) _ rfl ?_; intro g cap w7 hown hgrow hat hlt3)
        go_roundw
        case rel =>
          have hB7 : Below w1.heap.size w1 w7 := below_grown2 (wr := w6) hgrow (by go_grown) hw16 hw16.size hown6.out
          have OC7 : OwnCells w1.heap.size w7 (.slice (some ⟨g, 0, none⟩) (k + 1) cap) ((packedC h roots).take (k + 1)) := by
            rw [hst.out]
            refine ⟨?_, fun y hy => ?_⟩
            · have : ((packedC h roots).take k ++ [cellMoved at_ c]).length = k + 1 := by rw [List.length_append, hlO.out]; rfl
              rw [this, rowsOf_append, rowsOf_one]
              exact hown
            · rcases List.mem_append.1 hy with h' | h'
              · exact OC6.out.2 y h'
              · simp at h'; subst h'; exact hwfm.out
          exact ⟨k + 1, _, by omega, by go_num, rfl, hB7, OC7⟩
        case measure => simp [intOf]; omega
    · obtain rfl : q = k := by omega
      rw [take_full (Lib.hid hlC.symm)] at OC
      obtain ⟨va, vc, rfl⟩ := OC.form
      rw [hlC] at OC ⊢
      replace OC := Lib.hid OC; replace hlC := Lib.hid hlC
      have hw8 := hb.trans (hwr.mono hsz)
      have hs8 := hw8.size
      have SA8 : Hid (Sl IntR 1 w.heap.size wr (.slice ra n rc) at_) := SA.out.below IntR.good hwr
      have H1 := Lib.hid (h1.out.below GVal.good hw8)
      generalize hw8e : wr = w8 at *
      clear hw8e
      obtain ⟨w9, hW9⟩ : ∃ W, W = w8.alloc (.cells #[] 28) := ⟨_, rfl⟩
      have OV : OwnVals w8.heap.size w9 (.slice (some ⟨w8.heap.size, 0, none⟩) 0 0) [] := ⟨by
        have h1 := own_new w8 #[] 28 3 0 rfl (by unfold maxLen; omega) w8.heap.size (Nat.le_refl _)
        rw [hW9]; simpa [rowsOf] using h1, fun x hx => by cases hx⟩
      have hb9 : Below w8.heap.size w8 w9 := by rw [hW9]; go_grown
      have hlV : Hid ((packedV h roots).length = m) := by show _ = _; rw [hPV.out, List.length_map]; exact hm.out.symm
      replace OV := Lib.hid OV
      go_upto_region 11 with fail
      rw [← hW9]
      clear hW9
      go_wp2_with fail
      go_loopw [50, 12] (fun ii cv wr => ∃ (k : Nat) (v : Value), k ≤ m ∧ ii = .int .i64 k ∧ cv = v ∧ Below w8.heap.size w8 wr ∧ OwnVals w8.heap.size wr v ((packedV h roots).take k)) (fun ii _ _ => m - (intOf ii).toNat)
      case atStart => exact ⟨0, _, by omega, rfl, rfl, hb9, OV.out⟩
      case round =>
        clear hb9 OV
        obtain ⟨k, v, hk, rfl, rfl, hwr9, OV⟩ := hrel
        have hsr9 := hwr9.size
        by_cases hlt : k < m
        · obtain ⟨b1, o1, x, s1, _, rfl, P1, ⟨rfl, hwf⟩, r1⟩ := (H1.out.below GVal.good hwr9).get hm hlt
          have hcc := H.out.roots x (List.mem_of_getElem? P1.out)
          rw [← hlA.out] at hcc
          have hst : (packedV h roots).take (k + 1) = (packedV h roots).take k ++ [movedP at_ x] := by
            rw [hPV.out, take_map_snoc P1.out]
          obtain ⟨R0, Ra1, Ra2⟩ := r1.cells3
          have hlO : ((packedV h roots).take k).length = k := by rw [List.length_take, hlV.out]; omega
          obtain ⟨xa, xc, rfl⟩ := OV.form
          have hwfm := Lib.hid (movedP_wf hA64.out hwf)
          rw [hlO] at OV ⊢
          have hownr : Hid (wr.ownsRow w8.heap.size 28 3 (.slice xa k xc) k (rowsOf valRow ((packedV h roots).take k))) := by have h' := OV.1; rw [hlO] at h'; exact h'
          have cA := fun W (hW : Below wr.heap.size wr W) => moved_c x at_ _ _ hcc W ((SA8.out.below IntR.good hwr9).below IntR.good hW)
          replace OV := Lib.hid OV; replace cA := Lib.hid cA
          replace hst := Lib.hid hst; replace hlO := Lib.hid hlO; replace hwf := Lib.hid hwf
          clear r1 hcc
          go_wp2_with (first
            | (go_at_call 80; (with_reducible refine (cA.out _ (by go_grown)).mono ?_); rintro e w6 ⟨rfl, hbk⟩; have hb6 : Below wr.heap.size wr w6 := Below.trans (by go_grown) (hbk.mono (by first | exact Nat.le_refl _ | simp)); have hw16 := hwr9.trans (hb6.mono hsr9); have hs16 := hw16.size; have hown6 := Lib.hid (own_below hownr.out hb6))
            | (at_builtin; refine wpList_append_lies _ rfl _ _ _ rfl w8.heap.size 28 j0 _ 3 32 Try.underlying52 J.out J0.out J1.out J2.out rfl (by omega) (.slice xa k xc) k (rowsOf valRow ((packedV h roots).take k)) rfl (own_below hown6.out (by go_grown)) ⟨w6.heap.size, 0, none⟩ 1 1 [.int .i64 (movedP at_ x).kind, .int .i64 (movedP at_ x).n, .string (movedP at_ x).s] rfl rfl (World.news_of_block (cs := #[.int .i64 (movedP at_ x).kind, .int .i64 (movedP at_ x).n, .string (movedP at_ x).s]) (t := 28) (fr := (0, 0)) (heap_alloc_new' _ _ _ (by simp))) (by intro u hu; simp at hu; rcases hu with rfl | rfl | rfl <;> rfl) (by omega) (by unfold maxLen; omega) (by omega) (by simp; omega) _ rfl ?_; intro g cap w7 hown hgrow hat hlt3))
          go_roundw
          case rel =>
            have hB7 : Below w8.heap.size w8 w7 := below_grown2 (wr := w6) hgrow (by go_grown) hw16 hw16.size hown6.out
            have OC7 : OwnVals w8.heap.size w7 (.slice (some ⟨g, 0, none⟩) (k + 1) cap) ((packedV h roots).take (k + 1)) := by
              rw [hst.out]
              refine ⟨?_, fun y hy => ?_⟩
              · have : ((packedV h roots).take k ++ [movedP at_ x]).length = k + 1 := by rw [List.length_append, hlO.out]; rfl
                rw [this, rowsOf_append, rowsOf_one]
                exact hown
              · rcases List.mem_append.1 hy with h' | h'
                · exact OV.out.2 y h'
                · simp at h'; subst h'; exact hwfm.out
            exact ⟨k + 1, _, by omega, by go_num, rfl, hB7, OC7⟩
          case measure => simp [intOf]; omega
        · obtain rfl : m = k := by omega
          rw [take_full (Lib.hid hlV.out.symm)] at OV
          obtain ⟨xa, xc, rfl⟩ := OV.form
          rw [hlV.out] at OV ⊢
          replace OV := Lib.hid OV
          go_wp2_with fail
          go_returns
          refine ⟨_, _, rfl, (OC.out.below hwr9).mono (by omega), OV.out.mono (by omega), fun g h1 h2 => ?_, hw8.trans (hwr9.mono hs8)⟩
          have := (OC.out.base g h1).2; have := (OV.out.base g h2).1; omega

end Go.Proofs.Ytajbgkpjmgmdhaa
