/- l20Any: the walk. -/
import Derived.Test.YtajbgkpjmgmdhaaDraw7
namespace Go.Proofs.Ytajbgkpjmgmdhaa
open Go.RowKit
set_option linter.unusedVariables false
set_option linter.unusedSimpArgs false
attribute [local go_sem] Ext.cell

theorem any_end {W0 w wr : World} {b bP B B2 : Nat} {v0 v1 vr : Value} {p : GPool} {vs : List GVal} (A : AS W0 w b bP wr v0 v1 p B) (T : Tail B2 wr w.heap.size 28 3 vr vs.length (rowsOf valRow vs)) (hE : ∀ g, vr.ownBlock = some g → g ≠ w.heap.size) (hl : vs.length ≤ 101) (hv : ∀ v ∈ vs, SmallV v) :
    PyPost W0 w b (.returned (.tuple #[.agg #[v0, v1], vr])) ((wr.setCell ⟨w.heap.size, 0, none⟩ v0).setCell ⟨w.heap.size, 1, none⟩ v1) := by
  have K : Kept (· = w.heap.size) wr ((wr.setCell ⟨w.heap.size, 0, none⟩ v0).setCell ⟨w.heap.size, 1, none⟩ v1) := Kept.set (S := (· = w.heap.size)) (p := ⟨w.heap.size, 1, none⟩) (Kept.set (S := (· = w.heap.size)) (p := ⟨w.heap.size, 0, none⟩) (Kept.refl _ _) rfl _) rfl _
  exact ⟨v0, v1, vr, p, vs, B, B2, rfl, A.own.kept K (by simp [World.setCell]) (fun g hg e => (A.sep g (.inl hg)).2 e) (fun g hg e => (A.sep g (.inr hg)).2 e), T.kept K (fun g hg e => hE g hg e), hl, hv, A.df.sets K (Nat.le_refl _) A.bw (fun C hC => below_set2 (Below.refl _ _) hC _ _)⟩
set_option maxRecDepth 100000 in
set_option maxHeartbeats 16000000 in
theorem l20Any_c (W0 w : World) (b : Nat) (C : Cur W0 w b) :
    Calls Try.prog 36 #[.pointer (some ⟨b, 0, none⟩)] w (PyPost W0 w b) := by
  have hbl := C.lt
  obtain ⟨j0, hi0, hz0, hz1, hz2⟩ := info_parts info_ValS
  have J := Lib.hid hi0; have J0 := Lib.hid hz0; have J1 := Lib.hid hz1; have J2 := Lib.hid hz2
  clear hi0 hz0 hz1 hz2
  obtain ⟨i0, hi0, hz0, hz1, hz2⟩ := info_parts info_IntS
  have I := Lib.hid hi0; have I0 := Lib.hid hz0; have I1 := Lib.hid hz1; have I2 := Lib.hid hz2
  clear hi0 hz0 hz1 hz2
  go_enter Try.func36, Try.ntmps36
  go_upto_region 1 with fail
  have E : RowAt (w.alloc (.cells #[.slice none 0 0, .slice none 0 0] 26)) (w.heap.size) 0 [.slice none 0 0, .slice none 0 0] := RowAt.box w #[.slice none 0 0, .slice none 0 0] 26
  have EW : Wr (w.alloc (.cells #[.slice none 0 0, .slice none 0 0] 26)) (w.heap.size) 0 2 := Wr.box w #[.slice none 0 0, .slice none 0 0] 26
  have hw : Below w.heap.size w (w.alloc (.cells #[.slice none 0 0, .slice none 0 0] 26)) := by go_grown
  generalize (w.alloc (.cells #[.slice none 0 0, .slice none 0 0] 26)) = w0 at *
  have D0 : DF W0 b w w0 := (DF.refl C).below hw
  have hs0 := hw.size
  have hsE := World.block_lt_of_cell? _ _ E.box2.1; dsimp only at hsE
  replace C := Lib.hid C
  go_upto_region 2 with (go_at_call 69; (with_reducible refine (l20Draw_c W0 _ b D0.cur).mono ?_); rintro e w2 ⟨v0, v1, vr, p, vs, B, rfl, OP, hps, TR, hBv, hvs, hsep, D2⟩; obtain ⟨xa, xc, rfl⟩ := OP.cells.form; obtain ⟨ya, yc, rfl⟩ := OP.free.form; obtain ⟨ra, rc, rfl⟩ := TR.form)
  obtain ⟨w3, hW3⟩ : ∃ W, W = w2.alloc (.cells #[.slice xa p.cells.length xc, .slice ya p.free.length yc] 26) := ⟨_, rfl⟩
  rw [← hW3]
  have hb3 : Below w2.heap.size w2 w3 := by rw [hW3]; go_grown
  have RB : RowAt w3 w2.heap.size 0 [.slice xa p.cells.length xc, .slice ya p.free.length yc] := by rw [hW3]; exact RowAt.box w2 #[_, _] _
  have WB : Wr w3 w2.heap.size 0 2 := by rw [hW3]; exact Wr.box w2 #[_, _] _
  clear hW3
  have hz2 := D2.size
  have hrb := TR.block
  have hpb := OP.blocks
  have hps' := hps
  have A3 : AS W0 w b w2.heap.size w3 (.slice xa p.cells.length xc) (.slice ya p.free.length yc) p 0 := by
    have E3 := E.kept (D2.below hb3).kept (by omega)
    have EW3 := EW.kept (D2.below hb3).kept (by omega)
    refine ⟨(D0.trans D2).below hb3, hbl, RB, WB, by omega, (PAny.of (OP.mono (by omega)) hps).below hb3, fun g hg => ?_, E3, EW3⟩
    have := hpb g hg; omega
  have T3 := (TR.below hb3)
  have hOP3 := OP.below hb3
  have hz3 := hb3.size
  have hbP3 : w2.heap.size < w3.heap.size := A3.lt
  have hsr : ∀ g, (Value.slice ra vs.length rc).ownBlock = some g → w0.heap.size ≤ g ∧ g < w2.heap.size := hrb
  clear RB WB E EW D0 D2 hb3 TR OP hrb
  generalize w2.heap.size = bP at *
  go_upto_region 3 with (go_at_call 38; (with_reducible refine (l01Below_c W0 _ b 12 (by omega) A3.df.cur).mono ?_); rintro e w4 ⟨k, rfl, hk0, hk1, hk2, D4⟩)
  have A4 := A3.next D4
  have T4 := T3.kept D4.kept (fun g hg e => by have := hsr g hg; omega)
  have O4 := hOP3.kept D4.kept (fun g hg e => by have := hpb g (.inl hg); omega) (fun g hg e => by have := hpb g (.inr hg); omega)
  have hz4 := D4.size
  have hbP4 : bP < w4.heap.size := by omega
  obtain ⟨p_0, p_1⟩ := A4.box.box2
  have pf_1 := A4.wr.frz 1 (by omega)
  obtain ⟨⟨e_0, e_1⟩, ef_0, ef_1⟩ : (w4.cell? ⟨w.heap.size, 0, none⟩ = some (.slice none 0 0) ∧ w4.cell? ⟨w.heap.size, 1, none⟩ = some (.slice none 0 0)) ∧ w4.frozen? ⟨w.heap.size, 0, none⟩ = false ∧ w4.frozen? ⟨w.heap.size, 1, none⟩ = false := ⟨A4.e.1.box2, A4.e.2.frz 0 (by omega), A4.e.2.frz 1 (by omega)⟩
  clear A3 T3 hOP3 D4
  replace A4 := Lib.hid A4; replace T4 := Lib.hid T4; replace O4 := Lib.hid O4; replace hps := Lib.hid hps; replace hps' := Lib.hid hps'; replace hvs := Lib.hid hvs; replace hsep := Lib.hid hsep; replace hsr := Lib.hid hsr; replace hpb := Lib.hid hpb
  by_cases k0 : k = 0
  · subst k0
    have hown4 : Hid (w4.ownsRow w0.heap.size 3 1 (.slice ya p.free.length yc) p.free.length (rowsOf intRow p.free)) := O4.out.free.1
    have hwf4 := Lib.hid O4.out.free.2
    have hm4 := hps.out.free
    go_upto_region 4 with fail
    have p_1' : w4.drew.cell? ⟨bP, 1, none⟩ = some (.slice ya p.free.length yc) := p_1
    go_region_law
      (first
        | (go_simp; go_at_call 38; (with_reducible refine (l01Below_c W0 _ b 9 (by omega) A4.out.df.drew.cur).mono ?_); rintro e w6 ⟨z, rfl, hx0, hx1, hx2, D6⟩; have A6 := Lib.hid (A4.out.next ((DF.refl A4.out.df.cur).drew.trans D6)); have T6 := Lib.hid (T4.out.kept D6.kept (fun g hg e => by have := hsr.out g hg; omega)); have own6 := Lib.hid (own_kept (w' := w6) (w := w4.drew) hown4.out D6.kept (fun g hg e => by have := hpb.out g (.inr hg); omega)); have hz6 : w4.heap.size ≤ w6.heap.size := D6.size; have hz9 : z < 9 := hx1 (by omega); have hbP6 : bP < w6.heap.size := (by omega); obtain ⟨p6_0, p6_1⟩ := A6.out.box.box2; have pf6_1 := A6.out.wr.frz 1 (by omega))
        | (refine step_append_lies _ (by rfl) _ _ _ (by rfl) w0.heap.size 3 i0 _ 1 8 Try.underlying24 I.out I0.out I1.out I2.out rfl (by omega) _ p.free.length (rowsOf intRow p.free) (by rfl) (own_below own6.out (by go_grown)) ⟨w6.heap.size, 0, none⟩ 1 1 [.int .i64 z] (by rfl) (by rfl) (World.news_of_block (cs := #[.int .i64 z]) (t := 3) (fr := (0, 0)) (heap_alloc_new' _ _ _ (by simp))) (by intro u hu; simp at hu; subst hu; rfl) (by omega) (by unfold maxLen; omega) (by omega) (by simp; omega) (w6.heap.size + 1) (by simp) ?_; intro g cap w7 hown hgrow hat hlt2; have hk3 := kept_of hgrow (w := w6) (by go_grown); have nR : ∀ q, some q = (Value.slice ya p.free.length yc).ownBlock → q ≠ bP ∧ q ≠ w.heap.size ∧ (Value.slice xa p.cells.length xc).ownBlock ≠ some q := (fun q hq => ⟨by have := hpb.out q (.inr hq.symm); omega, by have := hpb.out q (.inr hq.symm); omega, fun e => O4.out.apart q e hq.symm⟩); obtain ⟨p7_0, p7_1⟩ := (A6.out.box.kept hk3 (fun e => (nR _ e).1 rfl)).box2; have pf7_1 := (A6.out.wr.kept hk3 (fun e => (nR _ e).1 rfl)).frz 1 (by omega)))
    all_goals
      have A7 := A6.out.below (show Below w6.heap.size w6 (w6.alloc (.cells #[.int .i64 z] 3)) by go_grown)
      have hz7 := hgrow.size
      have hlf : (p.free ++ [z]).length = p.free.length + 1 := by simp
      have A8 := A7.free (u1 := .slice (some ⟨g, 0, none⟩) (p.free.length + 1) cap) (fr := p.free ++ [z]) (B' := 0) (A7.df.grow hgrow (fun q hq => by have := hpb.out q (.inr hq); omega) hbl) (kept_grown hgrow) nR (.inl (by rw [hlf, rowsOf_append, rowsOf_one]; exact (Tail.of hown).lower hs0)) (fun x hx => by
          rcases List.mem_append.1 hx with h | h
          · exact hwf4.out x h
          · simp at h; subst h; constructor <;> omega) (by rw [hlf]; omega) (fun q hq => by
          obtain rfl : g = q := by simpa [Value.ownBlock] using hq
          rcases hat with h | h
          · exact nR g h.symm
          · refine ⟨by omega, by omega, fun e => ?_⟩
            have := hpb.out g (.inl e); omega)
      have T8 := ((T6.out.below (show Below w6.heap.size w6 (w6.alloc (.cells #[.int .i64 z] 3)) by go_grown)).kept (kept_grown hgrow) (fun q hq e => hsep.out q (.inr e.symm) hq)).kept (S := (· = bP)) (w' := w7.setCell ⟨bP, 1, none⟩ (.slice (some ⟨g, 0, none⟩) (p.free.length + 1) cap)) (Kept.set (S := (· = bP)) (p := ⟨bP, 1, none⟩) (Kept.refl _ _) rfl _) (fun q hq e => by have := hsr.out q hq; omega)
      obtain ⟨w8, hW8⟩ : ∃ W, W = w7.setCell ⟨bP, 1, none⟩ (.slice (some ⟨g, 0, none⟩) (p.free.length + 1) cap) := ⟨_, rfl⟩
      rw [← hW8] at A8 T8 ⊢
      obtain ⟨p8_0, p8_1⟩ := A8.box.box2
      obtain ⟨⟨e8_0, e8_1⟩, ef8_0, ef8_1⟩ : (w8.cell? ⟨w.heap.size, 0, none⟩ = some (.slice none 0 0) ∧ w8.cell? ⟨w.heap.size, 1, none⟩ = some (.slice none 0 0)) ∧ w8.frozen? ⟨w.heap.size, 0, none⟩ = false ∧ w8.frozen? ⟨w.heap.size, 1, none⟩ = false := ⟨A8.e.1.box2, A8.e.2.frz 0 (by omega), A8.e.2.frz 1 (by omega)⟩
      replace A8 := Lib.hid A8; replace T8 := Lib.hid T8; replace hat := Lib.hid hat; replace hown := Lib.hid hown; replace hgrow := Lib.hid hgrow
      clear hW8 p7_0 p7_1 pf7_1 p6_0 p6_1 pf6_1 p_0 p_1 p_1' pf_1 e_0 e_1 ef_0 ef_1 A7 hk3 nR hlf
      go_wp2_with fail
      have q := stored2 (x := .slice xa p.cells.length xc) (y := .slice (some ⟨g, 0, none⟩) (p.free.length + 1) cap) e8_0 e8_1
      refine bodyPost_ret (v := .tuple #[.agg #[.slice xa p.cells.length xc, .slice (some ⟨g, 0, none⟩) (p.free.length + 1) cap], .slice ra vs.length rc]) (by simp [results, Try.results36, go_sem, q.1, q.2]) rfl ?_
      exact any_end A8.out (T8.out.lower hs0) (fun g hg => by have := hsr.out g hg; omega) (by omega) hvs.out
  by_cases k1 : k = 1
  · subst k1
    by_cases h0 : 0 < p.free.length
    · have hd : decide (0 < p.free.length) = true := decide_eq_true h0
      obtain ⟨gf, cf, hv, hg1, hg2, hc1, hc2, hR, hW⟩ := own_cells O4.out.free.1 h0
      obtain ⟨rfl, rfl⟩ : ya = some ⟨gf, 0, none⟩ ∧ yc = cf := by injection hv with e1 e2 e3; exact ⟨e1, e3⟩
      clear hv hR hW
      obtain ⟨x, fr, hfr⟩ : ∃ x fr, p.free = x :: fr := by
        cases hp : p.free with
        | nil => rw [hp] at h0; simp at h0
        | cons x fr => exact ⟨x, fr, rfl⟩
      obtain ⟨cf, rfl⟩ : ∃ m, yc = m + 1 := ⟨yc - 1, by omega⟩
      have hT : Tail 0 w4 w0.heap.size 3 1 (.slice (some ⟨gf, 0 * 1, none⟩) (fr.length + 1) (cf + 1)) (fr.length + 1) (intRow x ++ rowsOf intRow fr) := by
        have h := Tail.of (B := 0) O4.out.free.1
        rw [hfr] at h
        exact h
      have hlf : p.free.length = fr.length + 1 := by rw [hfr]; rfl
      have hT2 : TailI 1 w4 w.heap.size (.slice (if cf = 0 then some ⟨gf, 0, none⟩ else some ⟨gf, 1, none⟩) fr.length cf) fr := by
        by_cases hcf : cf = 0
        · rw [if_pos hcf]
          have : fr = [] := List.length_eq_zero_iff.1 (by omega)
          subst this
          exact .inr ⟨rfl, gf, 0, cf, rfl, by omega, by omega, hg2⟩
        · rw [if_neg hcf]
          exact .inl ((Tail.tail hT (by omega) rfl).lower hs0)
      have h64 : ∀ y ∈ fr, I64 y := fun y hy => O4.out.free.2 y (by rw [hfr]; exact List.mem_cons_of_mem _ hy)
      have hfm : fr.length ≤ 8001 := by have := hps.out.free; omega
      have hg : gf ≠ bP ∧ gf ≠ w.heap.size ∧ (Value.slice xa p.cells.length xc).ownBlock ≠ some gf := ⟨by have := hpb.out gf (.inr rfl); omega, by omega, fun e => O4.out.apart gf e rfl⟩
      have hob : (Value.slice (if cf = 0 then some ⟨gf, 0, none⟩ else some ⟨gf, 1, none⟩) fr.length cf).ownBlock = some gf := by split <;> rfl
      have A5 : ∀ u, u = (Value.slice (if cf = 0 then some ⟨gf, 0, none⟩ else some ⟨gf, 1, none⟩) fr.length cf) → AS W0 w b bP (w4.setCell ⟨bP, 1, none⟩ u) (.slice xa p.cells.length xc) u ⟨p.cells, fr⟩ 1 := fun u hu => by
        rw [hu]
        exact A4.out.free (S := fun _ => False) A4.out.df (Kept.refl _ _) (fun q h => h.elim) hT2 h64 hfm (fun g hg' => by rw [hob] at hg'; obtain rfl := Option.some.inj hg'; exact hg)
      replace A5 := Lib.hid A5; replace hfr := Lib.hid hfr; replace hT := Lib.hid hT; replace hT2 := Lib.hid hT2; replace h64 := Lib.hid h64; replace hob := Lib.hid hob
      have hsz4 : w.heap.size ≠ bP := by omega
      have T5 : ∀ u, Tail B (w4.setCell ⟨bP, 1, none⟩ u) w.heap.size 28 3 (.slice ra vs.length rc) vs.length (rowsOf valRow vs) := fun u => (T4.out.kept (S := (· = bP)) (Kept.set (S := (· = bP)) (p := ⟨bP, 1, none⟩) (Kept.refl _ _) rfl _) (fun g hg e => by have := hsr.out g hg; omega)).lower hs0
      replace T5 := Lib.hid T5
      have fin : ∀ u, u = (Value.slice (if cf = 0 then some ⟨gf, 0, none⟩ else some ⟨gf, 1, none⟩) fr.length cf) → PyPost W0 w b (.returned (.tuple #[.agg #[.slice xa p.cells.length xc, u], .slice ra vs.length rc])) (((w4.setCell ⟨bP, 1, none⟩ u).setCell ⟨w.heap.size, 0, none⟩ (.slice xa p.cells.length xc)).setCell ⟨w.heap.size, 1, none⟩ u) := fun u hu =>
        any_end (A5.out u hu) (T5.out u) (fun g hg => by have := hsr.out g hg; omega) (by omega) hvs.out
      have efin : ∀ u, u = (Value.slice (if cf = 0 then some ⟨gf, 0, none⟩ else some ⟨gf, 1, none⟩) fr.length cf) → _ := fun u hu => (A5.out u hu).e.1.box2
      replace fin := Lib.hid fin; replace efin := Lib.hid efin
      by_cases hcf : cf = 0
      · go_wp2_with fail
        obtain ⟨e0', e1'⟩ := efin.out (.slice (some ⟨gf, 0, none⟩) fr.length cf) (by rw [if_pos hcf])
        have q := stored2 (x := .slice xa p.cells.length xc) (y := .slice (some ⟨gf, 0, none⟩) fr.length cf) e0' e1'
        have ff := fin.out (.slice (some ⟨gf, 0, none⟩) fr.length cf) (by rw [if_pos hcf])
        subst hcf
        refine bodyPost_ret (v := .tuple #[.agg #[.slice xa p.cells.length xc, .slice (some ⟨gf, 0, none⟩) fr.length 0], .slice ra vs.length rc]) (by simp [results, Try.results36, go_sem, q.1, q.2]) rfl ?_
        exact ff
      · go_wp2_with fail
        obtain ⟨e0', e1'⟩ := efin.out (.slice (some ⟨gf, 1, none⟩) fr.length cf) (by rw [if_neg hcf])
        have q := stored2 (x := .slice xa p.cells.length xc) (y := .slice (some ⟨gf, 1, none⟩) fr.length cf) e0' e1'
        refine bodyPost_ret (v := .tuple #[.agg #[.slice xa p.cells.length xc, .slice (some ⟨gf, 1, none⟩) fr.length cf], .slice ra vs.length rc]) (by simp [results, Try.results36, go_sem, q.1, q.2]) rfl ?_
        exact fin.out (.slice (some ⟨gf, 1, none⟩) fr.length cf) (by rw [if_neg hcf])
    · have hd : decide (0 < p.free.length) = false := decide_eq_false h0
      go_wp2_with fail
      have q := stored2 (x := .slice xa p.cells.length xc) (y := .slice ya p.free.length yc) e_0 e_1
      refine bodyPost_ret (v := .tuple #[.agg #[.slice xa p.cells.length xc, .slice ya p.free.length yc], .slice ra vs.length rc]) (by simp [results, Try.results36, go_sem, q.1, q.2]) rfl ?_
      exact any_end A4.out (T4.out.lower hs0) (fun g hg => by have := hsr.out g hg; omega) (by omega) hvs.out
  by_cases k2 : k = 2
  · subst k2
    go_upto_region 8 with fail
    go_wp2_with (first
      | (go_at_call 38; (with_reducible refine (l01Below_c W0 _ b 12 (by omega) A4.out.df.cur).mono ?_); rintro e w6 ⟨z, rfl, hx0, hx1, hx2, D6⟩; have A6 := Lib.hid (A4.out.next D6); have T6 := Lib.hid (T4.out.kept D6.kept (fun g hg e => by have := hsr.out g hg; omega)); have hz6 := D6.size; have hz12 : z < 12 := hx1 (by omega))
      | (at_builtin; refine wpList_append_tail _ rfl _ _ _ rfl w0.heap.size 28 j0 _ 3 32 Try.underlying52 J.out J0.out J1.out J2.out rfl (by omega) (.slice ra vs.length rc) vs.length (rowsOf valRow vs) rfl (Tail.below T6.out (by go_grown)) ⟨w6.heap.size, 0, none⟩ 1 1 [.int .i64 6, .int .i64 z, .string ⟨#[]⟩] rfl rfl (World.news_of_block (cs := #[.int .i64 6, .int .i64 z, .string ⟨#[]⟩]) (t := 28) (fr := (0, 0)) (heap_alloc_new' _ _ _ (by simp))) (by intro u hu; simp at hu; rcases hu with rfl | rfl | rfl <;> rfl) (by omega) (by unfold maxLen; omega) (by omega) (by simp; omega) _ rfl ?_; intro vn w7 hown hgrow hat; obtain ⟨na, nc, rfl⟩ := hown.form; have A7 := Lib.hid (A6.out.below (show Below w6.heap.size w6 (w6.alloc (.cells #[.int .i64 6, .int .i64 z, .string ⟨#[]⟩] 28)) by go_grown)); have K7 := kept_grown hgrow; have hz7 := hgrow.size; have nS : ∀ g, some g = (Value.slice ra vs.length rc).ownBlock → w0.heap.size ≤ g ∧ g < bP ∧ ¬ ((Value.slice xa p.cells.length xc).ownBlock = some g ∨ (Value.slice ya p.free.length yc).ownBlock = some g) := (fun g hg => ⟨(hsr.out g hg.symm).1, (hsr.out g hg.symm).2, fun h => hsep.out g h hg.symm⟩); have A8 := Lib.hid (A7.out.kept K7 hz7 (A7.out.df.grow hgrow (fun g hg => by have := hsr.out g hg; omega) hbl) (fun e => by have := (nS _ e).2.1; omega) (fun e => by have := (nS _ e).1; omega) (fun g hg e => (nS g e).2.2 hg)); obtain ⟨p8_0, p8_1⟩ := A8.out.box.box2; obtain ⟨⟨e8_0, e8_1⟩, ef8_0, ef8_1⟩ : (w7.cell? ⟨w.heap.size, 0, none⟩ = some (.slice none 0 0) ∧ w7.cell? ⟨w.heap.size, 1, none⟩ = some (.slice none 0 0)) ∧ w7.frozen? ⟨w.heap.size, 0, none⟩ = false ∧ w7.frozen? ⟨w.heap.size, 1, none⟩ = false := ⟨A8.out.e.1.box2, A8.out.e.2.frz 0 (by omega), A8.out.e.2.frz 1 (by omega)⟩))
    have q := stored2 (x := .slice xa p.cells.length xc) (y := .slice ya p.free.length yc) e8_0 e8_1
    refine bodyPost_ret (v := .tuple #[.agg #[.slice xa p.cells.length xc, .slice ya p.free.length yc], .slice na (vs.length + 1) nc]) (by simp [results, Try.results36, go_sem, q.1, q.2]) rfl ?_
    have hvS : SmallV ⟨6, z, ⟨#[]⟩⟩ := seqv_wf _ _ _ (by omega) (by constructor <;> omega) (by decide)
    refine any_end (B2 := B) (vs := vs ++ [⟨6, z, ⟨#[]⟩⟩]) A8.out ?_ (fun g hg => ?_) (by simp; omega) (fun v hv => ?_)
    · have : (vs ++ [(⟨6, z, ⟨#[]⟩⟩ : GVal)]).length = vs.length + 1 := by simp
      rw [this, rowsOf_append, rowsOf_one]
      exact hown.lower hs0
    · rcases hat with h | h
      · have := hsr.out g (h ▸ hg); omega
      · rw [h] at hg
        have := Option.some.inj hg
        simp at this; omega
    · rcases List.mem_append.1 hv with h | h
      · exact hvs.out v h
      · simp at h; subst h; exact hvS
  by_cases k3 : k = 3
  · subst k3
    by_cases h0 : 0 < p.cells.length
    · have hd : decide (0 < p.cells.length) = true := decide_eq_true h0
      obtain ⟨gc, cc, hv, hg1, hg2, hc1, hc2, -, hW⟩ := own_cells O4.out.cells.1 h0
      obtain ⟨rfl, rfl⟩ : xa = some ⟨gc, 0, none⟩ ∧ xc = cc := by injection hv with e1 e2 e3; exact ⟨e1, e3⟩
      have hgp := hpb.out gc (.inl rfl)
      have hgr : ∀ g, (Value.slice ra vs.length rc).ownBlock = some g → g ≠ gc := fun g hg e => hsep.out gc (.inl rfl) (e ▸ hg)
      replace hgr := Lib.hid hgr; replace hW := Lib.hid hW
      clear hv
      go_upto_region 10 with fail
      have p_0' : w4.drew.cell? ⟨bP, 0, none⟩ = some (.slice (some ⟨gc, 0, none⟩) p.cells.length xc) := p_0
      go_region_law (go_simp; go_at_call 38; (with_reducible refine (l01Below_c W0 _ b 12 (by omega) A4.out.df.drew.cur).mono ?_); rintro e w6 ⟨z, rfl, hx0, hx1, hx2, D6⟩; have A6 := Lib.hid (A4.out.next ((DF.refl A4.out.df.cur).drew.trans D6)); have T6 := Lib.hid (T4.out.kept D6.kept (fun g hg e => by have := hsr.out g hg; omega)); have hW6 := Wr.kept (w := w4.drew) hW.out D6.kept (by omega); have hz6 : w4.heap.size ≤ w6.heap.size := D6.size; have hz12 : z < 12 := hx1 (by omega); obtain ⟨p6_0, p6_1⟩ := A6.out.box.box2; have hA : Arr w6 gc (p.cells.length * 9) := (fun t ht => by simpa using hW6 t ht); obtain ⟨x0, y0, f0⟩ := hA 0 (by omega); obtain ⟨x1, y1, f1⟩ := hA 1 (by omega); obtain ⟨x2, y2, f2⟩ := hA 2 (by omega); obtain ⟨x3, y3, f3⟩ := hA 3 (by omega); obtain ⟨x4, y4, f4⟩ := hA 4 (by omega); obtain ⟨x5, y5, f5⟩ := hA 5 (by omega); obtain ⟨x6, y6, f6⟩ := hA 6 (by omega); obtain ⟨x7, y7, f7⟩ := hA 7 (by omega); obtain ⟨x8, y8, f8⟩ := hA 8 (by omega); clear hA hW6)
      all_goals
        obtain ⟨w8, hW8⟩ : ∃ W, W = ((((((((w6.setCell ⟨gc, 0, none⟩ (.int .i64 5)).setCell ⟨gc, 1, none⟩ (.int .i64 0)).setCell ⟨gc, 2, none⟩ (.string ⟨#[]⟩)).setCell ⟨gc, 3, none⟩ (.int .i64 6)).setCell ⟨gc, 4, none⟩ (.int .i64 z)).setCell ⟨gc, 5, none⟩ (.string ⟨#[]⟩)).setCell ⟨gc, 6, none⟩ (.int .i64 0)).setCell ⟨gc, 7, none⟩ (.int .i64 0)).setCell ⟨gc, 8, none⟩ (.string ⟨#[]⟩) := ⟨_, rfl⟩
        rw [← hW8]
        have hcS : SmallC ⟨5, 0, ⟨#[]⟩, ⟨6, z, ⟨#[]⟩⟩, ⟨0, 0, ⟨#[]⟩⟩⟩ := small_mk (by constructor <;> omega) (by constructor <;> omega) (by decide) (seqv_wf _ _ _ (by omega) (by constructor <;> omega) (by decide)) small_zero
        have A8 := A6.out.cell rfl h0 hcS
        have hSt : storeRow w6 gc 0 (cellRow ⟨5, 0, ⟨#[]⟩, ⟨6, z, ⟨#[]⟩⟩, ⟨0, 0, ⟨#[]⟩⟩⟩) = w8 := by rw [hW8]; simp only [storeRow, cellRow]
        rw [hSt] at A8
        have T8 := T6.out.kept (S := (· = gc)) (w' := w8) (by rw [← hSt]; exact kept_storeRow gc _ _ (Kept.refl _ _)) (fun q hq e => hgr.out q hq e)
        have hz8 : w6.heap.size ≤ w8.heap.size := by rw [← hSt]; exact (below_storeRow gc _ _ _).size
        obtain ⟨p8_0, p8_1⟩ := A8.box.box2
        obtain ⟨⟨e8_0, e8_1⟩, ef8_0, ef8_1⟩ : (w8.cell? ⟨w.heap.size, 0, none⟩ = some (.slice none 0 0) ∧ w8.cell? ⟨w.heap.size, 1, none⟩ = some (.slice none 0 0)) ∧ w8.frozen? ⟨w.heap.size, 0, none⟩ = false ∧ w8.frozen? ⟨w.heap.size, 1, none⟩ = false := ⟨A8.e.1.box2, A8.e.2.frz 0 (by omega), A8.e.2.frz 1 (by omega)⟩
        replace A8 := Lib.hid A8; replace T8 := Lib.hid T8
        clear hW8 hSt p6_0 p6_1 p_0 p_1 p_0' pf_1 e_0 e_1 ef_0 ef_1 y0 y1 y2 y3 y4 y5 y6 y7 y8 f0 f1 f2 f3 f4 f5 f6 f7 f8
        go_wp2_with fail
        have q := stored2 (x := .slice (some ⟨gc, 0, none⟩) p.cells.length xc) (y := .slice ya p.free.length yc) e8_0 e8_1
        refine bodyPost_ret (v := .tuple #[.agg #[.slice (some ⟨gc, 0, none⟩) p.cells.length xc, .slice ya p.free.length yc], .slice ra vs.length rc]) (by simp [results, Try.results36, go_sem, q.1, q.2]) rfl ?_
        exact any_end A8.out (T8.out.lower hs0) (fun g hg => by have := hsr.out g hg; omega) (by omega) hvs.out
    · have hd : decide (0 < p.cells.length) = false := decide_eq_false h0
      go_wp2_with fail
      have q := stored2 (x := .slice xa p.cells.length xc) (y := .slice ya p.free.length yc) e_0 e_1
      refine bodyPost_ret (v := .tuple #[.agg #[.slice xa p.cells.length xc, .slice ya p.free.length yc], .slice ra vs.length rc]) (by simp [results, Try.results36, go_sem, q.1, q.2]) rfl ?_
      exact any_end A4.out (T4.out.lower hs0) (fun g hg => by have := hsr.out g hg; omega) (by omega) hvs.out
  have d0 : (k == 0) = false := by simpa using k0
  have d1 : (k == 1) = false := by simpa using k1
  have d2 : (k == 2) = false := by simpa using k2
  have d3 : (k == 3) = false := by simpa using k3
  replace k0 := Lib.hid k0; replace k1 := Lib.hid k1; replace k2 := Lib.hid k2; replace k3 := Lib.hid k3
  go_wp2_with fail
  have q := stored2 (x := .slice xa p.cells.length xc) (y := .slice ya p.free.length yc) e_0 e_1
  refine bodyPost_ret (v := .tuple #[.agg #[.slice xa p.cells.length xc, .slice ya p.free.length yc], .slice ra vs.length rc]) (by simp [results, Try.results36, go_sem, q.1, q.2]) rfl ?_
  exact any_end A4.out (T4.out.lower hs0) (fun g hg => by have := hsr.out g hg; omega) (by omega) hvs.out

end Go.Proofs.Ytajbgkpjmgmdhaa
