/- l11Copy: the reference's packing. -/
import Derived.Test.YtajbgkpjmgmdhaaPack5
namespace Go.Proofs.Ytajbgkpjmgmdhaa
open Go.RowKit
set_option linter.unusedVariables false
set_option linter.unusedSimpArgs false
attribute [local go_sem] Ext.cell

set_option maxRecDepth 100000 in
set_option maxHeartbeats 8000000 in
theorem l11Copy_c (h : List GCell) (roots : List GVal) (u0 u1 : Value) (lo0 lo1 : Nat) (H : HeapIn h roots) (HB : HeapBare h roots) (hh : h.length ≤ 1048576) (hr : roots.length ≤ 1048576) (w : World) (hx0 : Sl GCell.R 9 lo0 w u0 h) (hx1 : Sl GVal.R 3 lo1 w u1 roots) :
    Calls Try.prog 67 #[u0, u1] w (PkPost w h roots) := by
  obtain ⟨a0, c0, rfl, l0, m0, h0⟩ := hx0
  obtain ⟨a1, cc1, rfl, l1, m1, h1⟩ := hx1
  have hwf0 : ∀ c ∈ h, c.wf := flatCell.wfs (h0.sl rfl l0 m0)
  have hwf1 : ∀ c ∈ roots, c.wf := flatVal.wfs (h1.sl rfl l1 m1)
  obtain ⟨n, hn⟩ : ∃ n, n = h.length := ⟨_, rfl⟩
  obtain ⟨m, hm⟩ : ∃ n, n = roots.length := ⟨_, rfl⟩
  rw [← hn] at l0 hh ⊢
  rw [← hm] at l1 hr ⊢
  obtain ⟨i0, hi0, hz0, hz1, hz2⟩ := info_parts info_CellS
  have I := Lib.hid hi0; have I0 := Lib.hid hz0; have I1 := Lib.hid hz1; have I2 := Lib.hid hz2
  clear hi0 hz0 hz1 hz2
  obtain ⟨j0, hi0, hz0, hz1, hz2⟩ := info_parts info_ValS
  have J := Lib.hid hi0; have J0 := Lib.hid hz0; have J1 := Lib.hid hz1; have J2 := Lib.hid hz2
  clear hi0 hz0 hz1 hz2
  obtain ⟨k0, hi0, hz0, hz1, hz2⟩ := info_parts info_IntS
  have X := Lib.hid hi0; have X0 := Lib.hid hz0; have X1 := Lib.hid hz1; have X2 := Lib.hid hz2
  clear hi0 hz0 hz1 hz2
  have hPC : packedC h roots = (copiedP h roots).1.map fun x => cellMoved (copiedP h roots).2 (h.getD x.toNat zeroG) := rfl
  have hPV : packedV h roots = roots.map (movedP (copiedP h roots).2) := rfl
  have hA64 : Hid (∀ x ∈ (copiedP h roots).2, I64 x) := by
    have B := (bloop_all H).inv
    intro x hx
    obtain ⟨i, hi, rfl⟩ := List.getElem_of_mem hx
    have := B.le
    rcases B.at_ i _ (List.getElem?_eq_getElem hi) with ⟨h1, _⟩ | ⟨h1, h2⟩
    · have h1' := Neg1.copied h roots _ (List.getElem_mem hi); constructor <;> omega
    · have := (List.getElem?_eq_some_iff.1 h2).1; constructor <;> omega
  replace hn := Lib.hid hn; replace hm := Lib.hid hm; replace h0 := Lib.hid h0; replace h1 := Lib.hid h1; replace H := Lib.hid H; replace HB := Lib.hid HB
  replace hwf0 := Lib.hid hwf0; replace hwf1 := Lib.hid hwf1; replace hPC := Lib.hid hPC; replace hPV := Lib.hid hPV
  go_enter Try.func67, Try.ntmps67
  go_upto_region 2 with (at_make; refine wpList_make_full _ rfl _ _ _ rfl w.heap.size 3 k0 _ 1 Try.underlying24 X.out X0.out X1.out _ _ _ _ n rfl rfl rfl rfl (by rw [X2.out]; omega) (by unfold maxLen; omega) (by simp) ?_; intro w1 hO hgw)
  rw [show (Value.int .i64 0).cells = #[.int .i64 0] from rfl, made_zero] at hO
  have hb1 : Below w.heap.size w w1 := (Below.refl w.heap.size w).grown (row := none) hgw (Nat.le_refl _) (by simp)
  have hs1 : w.heap.size < w1.heap.size := (own_base hO _ rfl).2
  obtain ⟨w2, hW2⟩ : ∃ W, W = w1.alloc (.cells #[.slice none 0 0, .slice (some ⟨w.heap.size, 0, none⟩) n n] 116) := ⟨_, rfl⟩
  rw [← hW2]
  have hb2 : Below w1.heap.size w1 w2 := by rw [hW2]; go_grown
  have T2 : TSt w.heap.size w2 w1.heap.size w.heap.size n (fun _ => False) ([], List.replicate n (-1)) := by
    refine ⟨⟨.slice none 0 0, by rw [hW2]; exact RowAt.box w1 #[_, _] _, OwnF.empty, fun g hg => by cases hg⟩, ⟨?_, fun x hx => ?_⟩, by simp, by rw [hW2]; exact Wr.box w1 #[_, _] _, by omega, by omega, fun h => h, fun h => h⟩
    · have := own_below hO hb2
      simpa using this
    · simp only [List.map_replicate] at hx
      obtain ⟨_, rfl⟩ := List.mem_replicate.1 hx
      constructor <;> omega
  have hw2 : Below w.heap.size w w2 := hb1.trans (hb2.mono hb1.size)
  clear hW2 hO hgw hb2
  obtain ⟨w3, hW3⟩ : ∃ W, W = w2.alloc (.cells #[] 28) := ⟨_, rfl⟩
  have OV : OwnVals w.heap.size w3 (.slice (some ⟨w2.heap.size, 0, none⟩) 0 0) [] := ⟨by
    have h1 := own_new w2 #[] 28 3 0 rfl (by unfold maxLen; omega) w.heap.size hw2.size
    rw [hW3]; simpa [rowsOf] using h1, fun x hx => by cases hx⟩
  have hb3 : Below w2.heap.size w2 w3 := by rw [hW3]; go_grown
  have hbT2 : w1.heap.size < w2.heap.size := World.block_lt_of_cell? _ _ T2.ex.choose_spec.1.box2.1
  have T3 : TSt w.heap.size w3 w1.heap.size w.heap.size n (fun q => (Value.slice (some ⟨w2.heap.size, 0, none⟩) 0 0).ownBlock = some q) ([], List.replicate n (-1)) := (T2.regrow (fun q hq => .inr (by
    obtain rfl : w2.heap.size = q := by simpa [Value.ownBlock] using hq
    exact Nat.le_refl _))).below hb3
  have hw3 : Below w.heap.size w w3 := hw2.trans (hb3.mono hw2.size)
  go_upto_region 3 with fail
  rw [← hW3]
  clear hW3 T2
  generalize w1.heap.size = bT at *
  generalize w2.heap.size = bN at *
  have L0 : RLoop h roots 0 ([], List.replicate n (-1)) := hn.out ▸ RLoop.zero h roots
  have hlV : Hid ((packedV h roots).length = m) := by show _ = _; rw [hPV.out, List.length_map]; exact hm.out.symm
  replace L0 := Lib.hid L0; replace OV := Lib.hid OV; replace T3 := Lib.hid T3
  go_wp2_with fail
  go_loopw [21, 7] (fun ii cv wr => ∃ (k : Nat) (s : BfsS) (v : Value), k ≤ m ∧ ii = .int .i64 k ∧ cv = v ∧ Below w.heap.size w wr ∧ TSt w.heap.size wr bT w.heap.size n (fun q => v.ownBlock = some q) s ∧ RLoop h roots k s ∧ Neg1 s ∧ OwnVals w.heap.size wr v ((packedV h roots).take k)) (fun ii _ _ => m - (intOf ii).toNat)
  case atStart => exact ⟨0, _, _, by omega, rfl, rfl, hw3, T3.out, L0.out, Neg1.start n, OV.out⟩
  case round =>
    clear hw3 T3 L0 OV
    obtain ⟨k, s, v, hk, rfl, rfl, hwr, TS, L, hN, OV⟩ := hrel
    have hsr := hwr.size
    by_cases hlt : k < m
    · obtain ⟨b1, o1, x, s1, _, rfl, P1, ⟨rfl, hwf⟩, r1⟩ := (h1.out.below GVal.good hwr).get hm hlt
      have hxm := List.mem_of_getElem? P1.out
      have hcc := H.out.roots x hxm
      have L2 := L.step H.out P1.out
      have hle2 := L2.inv.le
      have hmv : movedS (meetP s x).2 x = movedP (copiedP h roots).2 x := movedS_eq (HB.out.roots x hxm) fun h6 => by
        obtain ⟨i, y, e1, e2, e3, _⟩ := meet_num L.inv (v := x) (fun h6 => by
          obtain ⟨j, h1, h2⟩ := H.out.roots x hxm h6
          exact ⟨j, h1, h2, .root hxm h6 h1⟩) h6
        exact ⟨i, y, e1, e2, L2.keeps e2 e3⟩
      have hst : (packedV h roots).take (k + 1) = (packedV h roots).take k ++ [movedP (copiedP h roots).2 x] := by
        rw [hPV.out, take_map_snoc P1.out]
      obtain ⟨R0, Ra1, Ra2⟩ := r1.cells3
      have hlO : ((packedV h roots).take k).length = k := by rw [List.length_take, hlV.out]; omega
      obtain ⟨xa, xc, rfl⟩ := OV.form
      have hwfm := Lib.hid (movedP_wf hA64.out hwf)
      rw [hlO] at OV TS ⊢
      rw [← hn.out] at hcc hle2
      have hownr : Hid (wr.ownsRow w.heap.size 28 3 (.slice xa k xc) k (rowsOf valRow ((packedV h roots).take k))) := by have h' := OV.1; rw [hlO] at h'; exact h'
      have hbs := OV.base
      have hb64 := hN.bound L.inv
      rw [← hn.out] at hb64
      have cA := fun W (hW : Below wr.heap.size wr W) => l11Move_c x s w.heap.size bT w.heap.size n (fun q => (Value.slice xa k xc).ownBlock = some q) hh hcc hle2 hb64 W (TS.below hW) (by have := hW.size; omega) (fun q hq => by have := hbs q hq; have := hW.size; omega)
      rw [hmv] at cA
      replace OV := Lib.hid OV; replace cA := Lib.hid cA; replace L2 := Lib.hid L2; replace hN := Lib.hid (hN.meet x); replace hbs := Lib.hid hbs; replace hb64 := Lib.hid hb64
      replace hst := Lib.hid hst; replace hlO := Lib.hid hlO; replace hwf := Lib.hid hwf; replace hmv := Lib.hid hmv; replace hcc := Lib.hid hcc
      clear r1 L TS
      generalize hmx : movedP (copiedP h roots).2 x = y at *
      generalize hsx : meetP s x = s2 at *
      replace hmx := Lib.hid hmx; replace hsx := Lib.hid hsx
      go_wp2_with (first
        | (go_at_call 84; (with_reducible refine (cA.out _ (by go_grown)).mono ?_); rintro e w6 ⟨rfl, TS6, hbk, hKk⟩; have hb6 : Below w.heap.size w w6 := hwr.trans (Below.trans (by go_grown) hbk); have hs6 : wr.heap.size < w6.heap.size := (by have := hbk.size; simp at this; omega); have hK6 : Kept (fun q => ¬ (Value.slice xa k xc).ownBlock = some q) wr w6 := (Kept.below (by go_grown)).trans (by simp) hKk; have hown6 := Lib.hid (own_kept hownr.out hK6 (fun g hg e => e hg)))
        | (at_builtin; refine wpList_append_lies _ rfl _ _ _ rfl w.heap.size 28 j0 _ 3 32 Try.underlying52 J.out J0.out J1.out J2.out rfl (by omega) (.slice xa k xc) k (rowsOf valRow ((packedV h roots).take k)) rfl (own_below hown6.out (by go_grown)) ⟨w6.heap.size, 0, none⟩ 1 1 [.int .i64 y.kind, .int .i64 y.n, .string y.s] rfl rfl (World.news_of_block (cs := #[.int .i64 y.kind, .int .i64 y.n, .string y.s]) (t := 28) (fr := (0, 0)) (heap_alloc_new' _ _ _ (by simp))) (by intro u hu; simp at hu; rcases hu with rfl | rfl | rfl <;> rfl) (by omega) (by unfold maxLen; omega) (by omega) (by simp; omega) _ rfl ?_; intro g cap w7 hown hgrow hat hlt3))
      go_roundw
      case rel =>
        have hB7 : Below w.heap.size w w7 := below_grown2 (wr := w6) hgrow (by go_grown) hb6 hb6.size hown6.out
        simp only [World.size_alloc] at hat
        have OC7 : OwnVals w.heap.size w7 (.slice (some ⟨g, 0, none⟩) (k + 1) cap) ((packedV h roots).take (k + 1)) := by
          rw [hst.out]
          refine ⟨?_, fun y' hy => ?_⟩
          · have : ((packedV h roots).take k ++ [y]).length = k + 1 := by rw [List.length_append, hlO.out]; rfl
            rw [this, rowsOf_append, rowsOf_one]
            exact hown
          · rcases List.mem_append.1 hy with h' | h'
            · exact OV.out.2 y' h'
            · simp at h'; subst h'; exact hwfm.out
        have TS7 : TSt w.heap.size w7 bT w.heap.size n (fun q => (Value.slice (some ⟨g, 0, none⟩) (k + 1) cap).ownBlock = some q) s2 := by
          have hk7 := kept_of hgrow (w := w6) (by go_grown)
          refine TSt.kept (S := fun q => (Value.slice xa k xc).ownBlock = some q) (TS6.regrow (A' := fun q => (Value.slice xa k xc).ownBlock = some q ∨ (Value.slice (some ⟨g, 0, none⟩) (k + 1) cap).ownBlock = some q) (fun q hq => ?_)) (hk7.mono (fun q hq => hq.symm)) (fun q hq _ => .inl hq) |>.lessA (fun q hq => .inr hq)
          rcases hq with h' | h'
          · exact .inl h'
          · obtain rfl : g = q := by simpa [Value.ownBlock] using h'
            rcases hat with h'' | h''
            · exact .inl h''
            · exact .inr (by omega)
        exact ⟨k + 1, s2, _, by omega, by go_num, rfl, hB7, TS7, L2.out, hN.out, OC7⟩
      case measure => simp [intOf]; omega
    · obtain rfl : m = k := by omega
      rw [take_full (Lib.hid hlV.out.symm)] at OV
      obtain ⟨na, nc, rfl⟩ := OV.form
      rw [hlV.out] at OV TS ⊢
      have BL := L.done hm.out
      clear L
      obtain ⟨w9, hW9⟩ : ∃ W, W = wr.alloc (.cells #[] 30) := ⟨_, rfl⟩
      have hb9 : Below wr.heap.size wr w9 := by rw [hW9]; go_grown
      have OC : OwnCells w.heap.size w9 (.slice (some ⟨wr.heap.size, 0, none⟩) 0 0) [] := ⟨by
        have h1 := own_new wr #[] 30 9 0 rfl (by unfold maxLen; omega) w.heap.size hsr
        rw [hW9]; simpa [rowsOf] using h1, fun x hx => by cases hx⟩
      have hnb := OV.base
      have hap : ∀ g, (Value.slice (some ⟨wr.heap.size, 0, none⟩) 0 0).ownBlock = some g → (Value.slice na m nc).ownBlock ≠ some g := fun g h1 h2 => by
        obtain rfl : wr.heap.size = g := by simpa [Value.ownBlock] using h1
        have := hnb _ h2; omega
      have T9 := (TS.regrow (A' := fun q => (Value.slice na m nc).ownBlock = some q ∨ (Value.slice (some ⟨wr.heap.size, 0, none⟩) 0 0).ownBlock = some q) (fun q hq => hq.imp id (fun h => by
        obtain rfl : wr.heap.size = q := by simpa [Value.ownBlock] using h
        exact Nat.le_refl _))).below hb9
      have OV9 := OV.below hb9
      have hw9 := hwr.trans (hb9.mono hsr)
      replace OC := Lib.hid OC; replace T9 := Lib.hid T9; replace OV9 := Lib.hid OV9; replace hap := Lib.hid hap; replace hN := Lib.hid hN; replace BL := Lib.hid BL
      clear TS OV hnb
      go_upto_region 9 with fail
      rw [← hW9]
      clear hW9 hb9
      generalize wr.heap.size = bO at *
      have hlC : Hid ((packedC h roots).length = (copiedP h roots).1.length) := by show _ = _; rw [hPC.out, List.length_map]
      go_wp2_with fail
      go_loopw [11, 10] (fun ii cv wr => ∃ (k : Nat) (s : BfsS) (v : Value), ii = .int .i64 k ∧ cv = v ∧ Below w.heap.size w wr ∧ TSt w.heap.size wr bT w.heap.size n (fun q => (Value.slice na m nc).ownBlock = some q ∨ v.ownBlock = some q) s ∧ BLoop h roots k s ∧ Neg1 s ∧ OwnCells w.heap.size wr v ((packedC h roots).take k) ∧ OwnVals w.heap.size wr (.slice na m nc) (packedV h roots) ∧ (∀ g, v.ownBlock = some g → (Value.slice na m nc).ownBlock ≠ some g)) (fun ii _ _ => n - (intOf ii).toNat)
      case atStart => exact ⟨0, _, _, rfl, rfl, hw9, T9.out, BL.out, hN.out, OC.out, OV9.out, hap.out⟩
      case round =>
        clear hw9 T9 BL hN OC OV9 hap hwr hsr
        obtain ⟨k, s, v, rfl, rfl, hwr, TS, L, hN, OC, OV, hap⟩ := hrel
        have hsr := hwr.size
        have hle := L.inv.le
        rw [← hn.out] at hle
        have hkn := L.le
        obtain ⟨ov, RO, OO, -⟩ := TS.ex
        obtain ⟨oa, oc, rfl⟩ := OO.form
        obtain ⟨t_0, t_1⟩ := RO.box2
        have hbTr : bT < wr.heap.size := World.block_lt_of_cell? _ _ t_0
        by_cases hlt : k < s.1.length
        · obtain ⟨j, c, hkj, hjn, hjc, hR⟩ := L.get hlt
          obtain ⟨b1, o1, c', s1, hn', rfl, P1, ⟨rfl, hwf⟩, r1⟩ := h0.out.get hn (hn.out ▸ hjn)
          obtain rfl : c = c' := by have := P1.out; rw [hjc] at this; exact Option.some.inj this
          have hmem := List.mem_of_getElem? hjc
          have hcm := H.out.cells c hmem
          have hbare := HB.out.cells c hmem
          obtain ⟨g1, cap1, hg1, _, hg2, _, _, hR1, _⟩ := own_cells OO.1 (by omega)
          obtain ⟨rfl, rfl⟩ : oa = some ⟨g1, 0, none⟩ ∧ oc = cap1 := by injection hg1 with e1 e2 e3; exact ⟨e1, e3⟩
          have hx := hR1 k (.int .i64 (j : Int)) (by simpa using flatInt.get (j := 0) (c := .int .i64 (j : Int)) hkj rfl)
          rw [Nat.zero_add] at hx
          obtain ⟨R0, Ra1, Ra2, Ra3, Ra4, Ra5, Ra6, Ra7, Ra8⟩ := (r1.below hwr).cells9
          have hA1 := L.inv.meet (v := c.a) fun h6 => by
            obtain ⟨i, e1, e2⟩ := hcm.1 h6
            exact ⟨i, e1, e2, .left hR hjc h6 e1⟩
          have hle1 := hA1.1.le
          have L2 := L.step H.out hkj hjc hR
          have hle2 := L2.inv.le
          have hma : movedS (meetP s c.a).2 c.a = movedP (copiedP h roots).2 c.a := movedS_eq hbare.1 fun h6 => by
            obtain ⟨i, y, e1, e2, e3, _⟩ := meet_num L.inv (v := c.a) (fun h6 => by
              obtain ⟨i, e1, e2⟩ := hcm.1 h6
              exact ⟨i, e1, e2, .left hR hjc h6 e1⟩) h6
            exact ⟨i, y, e1, e2, L2.keeps (meetP_keeps e2 e3) e3⟩
          have hmb : movedS (meetP (meetP s c.a) c.b).2 c.b = movedP (copiedP h roots).2 c.b := movedS_eq hbare.2 fun h6 => by
            obtain ⟨i, y, e1, e2, e3, _⟩ := meet_num hA1.1 (v := c.b) (fun h6 => by
              obtain ⟨i, e1, e2⟩ := hcm.2 h6
              exact ⟨i, e1, e2, .right hR hjc h6 e1⟩) h6
            exact ⟨i, y, e1, e2, L2.keeps e2 e3⟩
          have hst : (packedC h roots).take (k + 1) = (packedC h roots).take k ++ [cellMoved (copiedP h roots).2 c] := by
            rw [hPC.out, take_map_snoc (L.old hkj)]
            congr 2
            rw [Int.toNat_natCast, List.getD_eq_getElem?_getD, hjc]; rfl
          have hlO : ((packedC h roots).take k).length = k := by
            have := (List.getElem?_eq_some_iff.1 (L.old hkj)).1
            rw [List.length_take, hlC.out]; omega
          obtain ⟨va, vc, rfl⟩ := OC.form
          rw [hlO] at OC TS hap ⊢
          rw [← hn.out] at hcm hle1 hle2 hjn
          have hbA := hN.bound L.inv
          have hbB := (hN.meet c.a).bound hA1.1
          rw [← hn.out] at hbA hbB
          have hwfm := Lib.hid (cellMoved_wf hA64.out hwf)
          have hcb := OC.base; have hvb := OV.base
          replace hst := Lib.hid hst; replace hlO := Lib.hid hlO; replace hwf := Lib.hid hwf; replace hma := Lib.hid hma; replace hmb := Lib.hid hmb
          replace L2 := Lib.hid L2; replace hN2 := Lib.hid ((hN.meet c.a).meet c.b); replace hcb := Lib.hid hcb; replace hvb := Lib.hid hvb
          replace OC := Lib.hid OC; replace OV := Lib.hid OV; replace hap := Lib.hid hap; replace hbA := Lib.hid hbA; replace hbB := Lib.hid hbB; replace hcm := Lib.hid hcm; replace hbare := Lib.hid hbare; replace TS := Lib.hid TS
          clear r1 L hA1 hg1 hR1 OO RO hkj hN
          go_upto_region 13 with fail
          obtain ⟨w3, hW3⟩ : ∃ W, W = wr.alloc (.cells #[.int .i64 c.kind, .int .i64 c.n, .string c.s, .int .i64 c.a.kind, .int .i64 c.a.n, .string c.a.s, .int .i64 c.b.kind, .int .i64 c.b.n, .string c.b.s] 30) := ⟨_, rfl⟩
          rw [← hW3]
          have hb3 : Below wr.heap.size wr w3 := by rw [hW3]; go_grown
          have D : RowAt w3 wr.heap.size 0 [.int .i64 c.kind, .int .i64 c.n, .string c.s, .int .i64 c.a.kind, .int .i64 c.a.n, .string c.a.s, .int .i64 c.b.kind, .int .i64 c.b.n, .string c.b.s] := by rw [hW3]; exact RowAt.box wr #[_, _, _, _, _, _, _, _, _] _
          have DW : Wr w3 wr.heap.size 0 9 := by rw [hW3]; exact Wr.box wr #[_, _, _, _, _, _, _, _, _] _
          clear hW3 R0 Ra1 Ra2 Ra3 Ra4 Ra5 Ra6 Ra7 Ra8 t_0 t_1 hx
          obtain ⟨at_, hat_⟩ : ∃ l, l = (copiedP h roots).2 := ⟨_, rfl⟩
          rw [← hat_] at hma hmb hst hwfm
          generalize hbD : wr.heap.size = bD at *
          have hsD3 : bD < w3.heap.size := World.block_lt_of_cell? _ _ D.box9.1
          obtain ⟨AA, hAAd⟩ : ∃ AA : Nat → Prop, AA = fun q => ((Value.slice na m nc).ownBlock = some q ∨ (Value.slice va k vc).ownBlock = some q) ∨ q = bD := ⟨_, rfl⟩
          have hAAn : ∀ q, (Value.slice na m nc).ownBlock = some q → AA q := fun q hq => by rw [hAAd]; exact .inl (.inl hq)
          have hAAv : ∀ q, (Value.slice va k vc).ownBlock = some q → AA q := fun q hq => by rw [hAAd]; exact .inl (.inr hq)
          have hAAD : AA bD := by rw [hAAd]; exact .inr rfl
          have hAAlt : ∀ q, AA q → q < w3.heap.size := fun q hq => by
            rw [hAAd] at hq
            rcases hq with (h' | h') | h'
            · have := hvb.out q h'; omega
            · have := hcb.out q h'; omega
            · omega
          have TS3 : TSt w.heap.size w3 bT w.heap.size n AA s := (TS.out.regrow (A' := AA) (fun q hq => by
            rw [hAAd] at hq
            exact hq.imp id (fun e => by omega))).below (hbD.symm ▸ hb3)
          have hw3 := hwr.trans (hb3.mono hsr)
          have hs03 := hw3.size
          have cA := fun W (hW : Below w3.heap.size w3 W) => l11Move_c c.a s w.heap.size bT w.heap.size n AA hh hcm.out.1 hle1 hbA.out W (TS3.below hW) (by have := hW.size; omega) (fun q hq => by have := hAAlt q hq; have := hW.size; omega)
          rw [hma.out] at cA
          have OC3 := OC.out.below (hbD.symm ▸ hb3); have OV3 := OV.out.below (hbD.symm ▸ hb3)
          replace cA := Lib.hid cA; replace hAAn := Lib.hid hAAn; replace hAAv := Lib.hid hAAv; replace hAAlt := Lib.hid hAAlt; replace OC3 := Lib.hid OC3; replace OV3 := Lib.hid OV3; replace hAAd := Lib.hid hAAd; replace hAAD := Lib.hid hAAD
          obtain ⟨d_0, d_1, d_2, d_3, d_4, d_5, d_6, d_7, d_8⟩ := D.box9
          clear TS TS3
          generalize hya : movedP at_ c.a = ya at *
          generalize hyb : movedP at_ c.b = yb at *
          generalize hs1 : meetP s c.a = s1 at *
          go_upto_region 14 with (go_at_call 84; (with_reducible refine (cA.out _ (Below.refl _ _)).mono ?_); rintro e w5 ⟨rfl, TS5, hb5, hK5⟩; have D5 := D.kept hK5 (fun e => e hAAD.out); have DW5 := DW.kept hK5 (fun e => e hAAD.out); have OC5 := OC3.out.kept hK5 (fun g hg e => e (hAAv.out g hg)); have OV5 := OV3.out.kept hK5 (fun g hg e => e (hAAn.out g hg)); replace OC5 := Lib.hid OC5; replace OV5 := Lib.hid OV5; obtain ⟨e_0, e_1, e_2, e_3, e_4, e_5, e_6, e_7, e_8⟩ := D5.box9; have f_3 := DW5.frz 3 (by omega); have f_4 := DW5.frz 4 (by omega); have f_5 := DW5.frz 5 (by omega))
          obtain ⟨w6, hW6⟩ : ∃ W, W = ((w5.setCell ⟨bD, 3, none⟩ (.int .i64 ya.kind)).setCell ⟨bD, 4, none⟩ (.int .i64 ya.n)).setCell ⟨bD, 5, none⟩ (.string ya.s) := ⟨_, rfl⟩
          rw [← hW6]
          have D6 : RowAt w6 bD 0 [.int .i64 c.kind, .int .i64 c.n, .string c.s, .int .i64 ya.kind, .int .i64 ya.n, .string ya.s, .int .i64 c.b.kind, .int .i64 c.b.n, .string c.b.s] := by
            rw [hW6]; exact ((D5.setAt (j := 3) (by simp) _).setAt (j := 4) (by simp) _).setAt (j := 5) (by simp) _
          have K6 : Kept (· = bD) w5 w6 := by
            rw [hW6]; exact Kept.set (S := (· = bD)) (p := ⟨bD, 5, none⟩) (Kept.set (S := (· = bD)) (p := ⟨bD, 4, none⟩) (Kept.set (S := (· = bD)) (p := ⟨bD, 3, none⟩) (Kept.refl _ _) rfl _) rfl _) rfl _
          have DW6 : Wr w6 bD 0 9 := by rw [hW6]; exact ((DW5.set 3 _).set 4 _).set 5 _
          have hb6 : Below w.heap.size w w6 := by
            rw [hW6]; exact (((hw3.trans hb5).setCell (p := ⟨bD, 3, none⟩) hsr _).setCell (p := ⟨bD, 4, none⟩) hsr _).setCell (p := ⟨bD, 5, none⟩) hsr _
          have hs56 : w5.heap.size ≤ w6.heap.size := by rw [hW6]; simp [World.setCell]
          have hs35 := hb5.size
          have hnv : ∀ g, (Value.slice va k vc).ownBlock = some g → g ≠ bD := fun g hg => by have := hcb.out g hg; omega
          have hnn : ∀ g, (Value.slice na m nc).ownBlock = some g → g ≠ bD := fun g hg => by have := hvb.out g hg; omega
          have OC6 := Lib.hid (OC5.out.kept K6 (fun g hg e => hnv g hg e)); have OV6 := Lib.hid (OV5.out.kept K6 (fun g hg e => hnn g hg e))
          have TS6 := TS5.kept K6 (fun q hq _ => by rw [hq]; exact hAAD.out)
          have hs06 := hb6.size
          have cB := fun W (hW : Below w6.heap.size w6 W) => l11Move_c c.b s1 w.heap.size bT w.heap.size n AA hh hcm.out.2 hle2 hbB.out W (TS6.below hW) (by have := hW.size; omega) (fun q hq => by have := hAAlt.out q hq; have := hW.size; omega)
          rw [hmb.out] at cB
          replace cB := Lib.hid cB; replace hnv := Lib.hid hnv; replace hnn := Lib.hid hnn
          clear hW6 K6 d_0 d_1 d_2 d_3 d_4 d_5 d_6 d_7 d_8 e_0 e_1 e_2 e_3 e_4 e_5 e_6 e_7 e_8 f_3 f_4 f_5 TS5 TS6 hK5 cA D5 DW5 D DW OC5 OV5 OC3 OV3
          obtain ⟨d_0, d_1, d_2, d_3, d_4, d_5, d_6, d_7, d_8⟩ := D6.box9
          go_upto_region 15 with (go_at_call 84; (with_reducible refine (cB.out _ (Below.refl _ _)).mono ?_); rintro e w7 ⟨rfl, TS7, hb7, hK7⟩; have D7 := D6.kept hK7 (fun e => e hAAD.out); have DW7 := DW6.kept hK7 (fun e => e hAAD.out); have OC7 := OC6.out.kept hK7 (fun g hg e => e (hAAv.out g hg)); have OV7 := OV6.out.kept hK7 (fun g hg e => e (hAAn.out g hg)); replace OC7 := Lib.hid OC7; replace OV7 := Lib.hid OV7; obtain ⟨e_0, e_1, e_2, e_3, e_4, e_5, e_6, e_7, e_8⟩ := D7.box9; have f_6 := DW7.frz 6 (by omega); have f_7 := DW7.frz 7 (by omega); have f_8 := DW7.frz 8 (by omega))
          obtain ⟨w8, hW8⟩ : ∃ W, W = ((w7.setCell ⟨bD, 6, none⟩ (.int .i64 yb.kind)).setCell ⟨bD, 7, none⟩ (.int .i64 yb.n)).setCell ⟨bD, 8, none⟩ (.string yb.s) := ⟨_, rfl⟩
          rw [← hW8]
          have D8 : RowAt w8 bD 0 [.int .i64 c.kind, .int .i64 c.n, .string c.s, .int .i64 ya.kind, .int .i64 ya.n, .string ya.s, .int .i64 yb.kind, .int .i64 yb.n, .string yb.s] := by
            rw [hW8]; exact ((D7.setAt (j := 6) (by simp) _).setAt (j := 7) (by simp) _).setAt (j := 8) (by simp) _
          have K8 : Kept (· = bD) w7 w8 := by
            rw [hW8]; exact Kept.set (S := (· = bD)) (p := ⟨bD, 8, none⟩) (Kept.set (S := (· = bD)) (p := ⟨bD, 7, none⟩) (Kept.set (S := (· = bD)) (p := ⟨bD, 6, none⟩) (Kept.refl _ _) rfl _) rfl _) rfl _
          have hb8 : Below w.heap.size w w8 := by
            rw [hW8]; exact (((hb6.trans hb7).setCell (p := ⟨bD, 6, none⟩) hsr _).setCell (p := ⟨bD, 7, none⟩) hsr _).setCell (p := ⟨bD, 8, none⟩) hsr _
          have hs78 : w7.heap.size ≤ w8.heap.size := by rw [hW8]; simp [World.setCell]
          have hs67 := hb7.size
          have OC8 := Lib.hid (OC7.out.kept K8 (fun g hg e => hnv.out g hg e)); have OV8 := Lib.hid (OV7.out.kept K8 (fun g hg e => hnn.out g hg e))
          have TS8 := Lib.hid (TS7.kept K8 (fun q hq _ => by rw [hq]; exact hAAD.out))
          clear hW8 K8 d_0 d_1 d_2 d_3 d_4 d_5 d_6 d_7 d_8 e_0 e_1 e_2 e_3 e_4 e_5 e_6 e_7 e_8 f_6 f_7 f_8 TS7 hK7 cB D7 DW7 D6 DW6 OC7 OV7 OC6 OV6
          obtain ⟨d_0, d_1, d_2, d_3, d_4, d_5, d_6, d_7, d_8⟩ := D8.box9
          have hown8 : Hid (w8.ownsRow w.heap.size 30 9 (.slice va k vc) k (rowsOf cellRow ((packedC h roots).take k))) := by have h' := OC8.out.1; rw [hlO.out] at h'; exact h'
          have hs08 := hb8.size
          go_wp2_with (at_builtin; refine wpList_append_lies _ rfl _ _ _ rfl w.heap.size 30 i0 _ 9 96 Try.underlying23 I.out I0.out I1.out I2.out rfl (by omega) (.slice va k vc) k (rowsOf cellRow ((packedC h roots).take k)) rfl (own_below hown8.out (by go_grown)) ⟨w8.heap.size, 0, none⟩ 1 1 [.int .i64 c.kind, .int .i64 c.n, .string c.s, .int .i64 ya.kind, .int .i64 ya.n, .string ya.s, .int .i64 yb.kind, .int .i64 yb.n, .string yb.s] rfl rfl (World.news_of_block (cs := #[.int .i64 c.kind, .int .i64 c.n, .string c.s, .int .i64 ya.kind, .int .i64 ya.n, .string ya.s, .int .i64 yb.kind, .int .i64 yb.n, .string yb.s]) (t := 30) (fr := (0, 0)) (heap_alloc_new' _ _ _ (by simp))) (by intro u hu; simp at hu; rcases hu with rfl | rfl | rfl | rfl | rfl | rfl | rfl | rfl | rfl <;> rfl) (by omega) (by unfold maxLen; omega) (by omega) (by simp; omega) _ rfl ?_; intro g cap w9 hown hgrow hat hlt3)
          go_roundw
          case rel =>
            have hB9 : Below w.heap.size w w9 := below_grown2 (wr := w8) hgrow (by go_grown) hb8 hb8.size hown8.out
            have hk9 := kept_of hgrow (w := w8) (by go_grown)
            simp only [World.size_alloc] at hat
            have hcell : cellRow (cellMoved at_ c) = [.int .i64 c.kind, .int .i64 c.n, .string c.s, .int .i64 ya.kind, .int .i64 ya.n, .string ya.s, .int .i64 yb.kind, .int .i64 yb.n, .string yb.s] := by rw [← hya, ← hyb]; rfl
            have OC9 : OwnCells w.heap.size w9 (.slice (some ⟨g, 0, none⟩) (k + 1) cap) ((packedC h roots).take (k + 1)) := by
              rw [hst.out]
              refine ⟨?_, fun y hy => ?_⟩
              · have : ((packedC h roots).take k ++ [cellMoved at_ c]).length = k + 1 := by rw [List.length_append, hlO.out]; rfl
                rw [this, rowsOf_append, rowsOf_one, hcell]
                exact hown
              · rcases List.mem_append.1 hy with h' | h'
                · exact OC8.out.2 y h'
                · simp at h'; subst h'; exact hwfm.out
            have hgl : g < bD ∨ w8.heap.size ≤ g := by
              rcases hat with h' | h'
              · exact .inl (hcb.out g h').2
              · exact .inr (by omega)
            have TS9 : TSt w.heap.size w9 bT w.heap.size n (fun q => (Value.slice na m nc).ownBlock = some q ∨ (Value.slice (some ⟨g, 0, none⟩) (k + 1) cap).ownBlock = some q) (meetP s1 c.b) := by
              refine TSt.kept (S := fun q => (Value.slice va k vc).ownBlock = some q) (TS8.out.regrow (A' := fun q => AA q ∨ (Value.slice (some ⟨g, 0, none⟩) (k + 1) cap).ownBlock = some q) (fun q hq => ?_)) (hk9.mono (fun q hq => hq.symm)) (fun q hq _ => .inl (hAAv.out q hq)) |>.lessA (fun q hq => hq.imp (hAAn.out q) id)
              rcases hq with h' | h'
              · exact .inl h'
              · obtain rfl : g = q := by simpa [Value.ownBlock] using h'
                rcases hat with h'' | h''
                · exact .inl (hAAv.out _ h'')
                · exact .inr (by omega)
            have OV9 : OwnVals w.heap.size w9 (.slice na m nc) (packedV h roots) := OV8.out.kept hk9 (fun g' hg' e => hap.out g' e.symm hg')
            have hap9 : ∀ g', (Value.slice (some ⟨g, 0, none⟩) (k + 1) cap).ownBlock = some g' → (Value.slice na m nc).ownBlock ≠ some g' := fun g' h1 h2 => by
              obtain rfl : g = g' := by simpa [Value.ownBlock] using h1
              rcases hat with h' | h'
              · exact hap.out g h' h2
              · have := hvb.out g h2; omega
            exact ⟨k + 1, _, _, by go_num, rfl, hB9, TS9, L2.out, hN2.out, OC9, OV9, hap9⟩
          case measure => simp [intOf]; omega
        · have hk : k = s.1.length := by omega
          have he := L.done hk
          have hfull : (packedC h roots).take k = packedC h roots := take_full (Lib.hid (by rw [hlC.out, ← he]; exact hk))
          rw [hfull] at OC
          obtain ⟨va, vc, rfl⟩ := OC.form
          replace OC := Lib.hid OC; replace OV := Lib.hid OV; replace hap := Lib.hid hap; replace L := Lib.hid L; replace he := Lib.hid he; replace TS := Lib.hid TS; replace OO := Lib.hid OO; replace hN := Lib.hid hN
          go_wp2_with fail
          go_returns
          exact ⟨_, _, rfl, OC.out, OV.out, hap.out, hwr⟩

end Go.Proofs.Ytajbgkpjmgmdhaa
