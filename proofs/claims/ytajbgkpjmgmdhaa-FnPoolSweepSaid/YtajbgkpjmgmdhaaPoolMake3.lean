/- PoolMake: the program's walk, right pools. -/
import Derived.Test.YtajbgkpjmgmdhaaPoolMake2
import Derived.Test.YtajbgkpjmgmdhaaFill
namespace Go.Proofs.Ytajbgkpjmgmdhaa
open Go.RowKit
set_option linter.unusedVariables false
set_option linter.unusedSimpArgs false
attribute [local go_sem] Ext.cell

theorem pm_yes {w w' : World} {p : GPool} {c : GCell} {m j : Nat} {v0 v1 : Value} (h : poolOk p = true ∧ poolFits p c = true) (hm : p.free.length = m + 1) (hj : p.free[m]? = some (j : Int)) (hO : OwnPool w.heap.size w' v0 v1 ⟨p.cells.set j c, p.free.take m⟩) (hb : Below w.heap.size w w') :
    PmPost w p c (.returned (.tuple #[.agg #[v0, v1], .int .i64 (j : Int), .int .i64 0])) w' := by
  have hc : pmCode p c = 0 := by unfold pmCode; rw [if_pos h, if_neg (by omega)]
  have ha : pmAt p c = j := by unfold pmAt; rw [if_pos hc, hm, Nat.add_sub_cancel, List.getD_eq_getElem?_getD, hj]; rfl
  have hp : pmPool p c = ⟨p.cells.set j c, p.free.take m⟩ := by unfold pmPool; rw [if_pos hc, ha, hm, Nat.add_sub_cancel, Int.toNat_natCast]
  exact ⟨_, _, by rw [hc, ha], by rw [hp]; exact hO, hb⟩
/-- What the stores behind the copy leave. -/
theorem pm_end {w w9 : World} {lo lo7 : Nat} {p : GPool} {c : GCell} {gc cc gf cf n m j E : Nat} (hn : n = p.cells.length) (hm : p.free.length = m + 1) (OP : OwnPool lo7 w9 (.slice (some ⟨gc, 0, none⟩) n cc) (.slice (some ⟨gf, 0, none⟩) (m + 1) cf) p) (hj : j < n) (hc : c.wf)
    (hE : E < lo7) (hlo : lo ≤ E) (hb : Below lo w w9) (u0 u1 : Value) :
    OwnPool lo (((storeRow w9 gc (j * 9) (cellRow c)).setCell ⟨E, 0, none⟩ u0).setCell ⟨E, 1, none⟩ u1) (.slice (some ⟨gc, 0, none⟩) n cc) (.slice (some ⟨gf, 0, none⟩) m cf) ⟨p.cells.set j c, p.free.take m⟩ ∧
      Below lo w (((storeRow w9 gc (j * 9) (cellRow c)).setCell ⟨E, 0, none⟩ u0).setCell ⟨E, 1, none⟩ u1) := by
  subst hn
  have b0 := OP.cells.base gc rfl
  have b1 := OP.free.base gf rfl
  have hne : gc ≠ gf := fun e => OP.apart gc rfl (by rw [e]; rfl)
  have K1 : Kept (· = gc) w9 (storeRow w9 gc (j * 9) (cellRow c)) := kept_storeRow gc _ _ (Kept.refl _ _)
  have K2 : Kept (· = E) (storeRow w9 gc (j * 9) (cellRow c)) (((storeRow w9 gc (j * 9) (cellRow c)).setCell ⟨E, 0, none⟩ u0).setCell ⟨E, 1, none⟩ u1) := Kept.set (S := (· = E)) (p := ⟨E, 1, none⟩) (Kept.set (S := (· = E)) (p := ⟨E, 0, none⟩) (Kept.refl _ _) rfl _) rfl _
  refine ⟨⟨?_, ?_, ?_⟩, ?_⟩
  · refine OwnF.kept (S := (· = E)) (OwnF.mono (lo := lo7) ⟨?_, ?_⟩ (by omega)) K2 (fun g hg e => absurd (by simpa [Value.ownBlock] using hg : gc = g) (by omega))
    · have := own_store (v := .slice none 0 0) flatCell (y := c) OP.cells.1 hj
      simpa using this
    · intro x hx
      rcases List.mem_or_eq_of_mem_set hx with h | rfl
      · exact OP.cells.2 x h
      · exact hc
  · have hF : OwnInts lo7 w9 (.slice (some ⟨gf, 0, none⟩) m cf) (p.free.take m) := OwnF.take flatInt OP.free hm.symm (by omega)
    refine OwnF.kept (S := (· = E)) (OwnF.kept (S := (· = gc)) (hF.mono (by omega)) K1 (fun g hg e => ?_)) K2 (fun g hg e => ?_) <;> (obtain rfl : gf = g := by simpa [Value.ownBlock] using hg) <;> omega
  · intro g h1 h2
    obtain rfl : gc = g := by simpa [Value.ownBlock] using h1
    exact hne (by simpa [Value.ownBlock] using h2.symm)
  · exact ((hb.trans ((below_storeRow gc _ _ _).mono (by omega))).setCell (p := ⟨E, 0, none⟩) hlo u0).setCell (p := ⟨E, 1, none⟩) hlo u1

set_option maxRecDepth 100000 in
set_option maxHeartbeats 8000000 in
theorem impl_PoolMake_yes (p : GPool) (c : GCell) (hc : c.wf) (r : List Value) (lo : Nat) (hbulk : p.bulk ≤ 1048576) (w : World) (hp : GPool.R lo w r p) (hok : poolOk p = true) (hfit : poolFits p c = true) :
    Calls Try.prog 9 #[.agg r.toArray, .agg #[.int .i64 c.kind, .int .i64 c.n, .string c.s, .int .i64 c.a.kind, .int .i64 c.a.n, .string c.a.s, .int .i64 c.b.kind, .int .i64 c.b.n, .string c.b.s]] w (PmPost w p c) := by
  have Hp := hp
  obtain ⟨u0, u1, rfl, -, a0, a1⟩ := hp
  obtain ⟨pa, pc, rfl⟩ := a0.form
  obtain ⟨qa, qc, rfl⟩ := a1.form
  obtain ⟨hp1, hp2, hp3⟩ := poolOk_parts hok
  have hlen : p.cells.length ≤ 1048576 := by omega
  have hlen2 : p.free.length ≤ 1048576 := by omega
  have c1 := fun W (hW : Below w.heap.size w W) => impl_PoolOk_c p _ lo hbulk W (GPool.good.below Hp hW)
  have c2 := fun W (hW : Below w.heap.size w W) => frees_c p _ lo hlen hp3 W (GPool.good.below Hp hW)
  have c3 := fun W (hW : Below w.heap.size w W) (uf : Value) (hf : Sl BoolR 1 0 W uf (marksOf p.cells.length p.free)) => fits_c p _ lo c uf 0 hlen W (GPool.good.below Hp hW) hf
  have c4 := fun W (hW : Below w.heap.size w W) => clone_c p _ lo hlen hlen2 W (GPool.good.below Hp hW)
  have hfull := fun (h0 : p.free.length = 0) (w' : World) => pm_full (w := w) (w' := w') ⟨hok, hfit⟩ h0
  have hyes := @pm_yes w (p := p) (c := c) (h := ⟨hok, hfit⟩)
  rw [hok] at c1
  rw [hfit] at c3
  replace c1 := Lib.hid c1; replace c2 := Lib.hid c2; replace c3 := Lib.hid c3; replace c4 := Lib.hid c4; replace hfull := Lib.hid hfull; replace hyes := Lib.hid hyes
  replace hp3 := Lib.hid hp3; replace hok := Lib.hid hok; replace hfit := Lib.hid hfit
  clear a0 a1 hbulk
  go_enter Try.func9, Try.ntmps9
  go_upto_region 1 with fail
  have B : RowAt (w.alloc (.cells #[.slice pa p.cells.length pc, .slice qa p.free.length qc] 26)) (w.heap.size) 0 [.slice pa p.cells.length pc, .slice qa p.free.length qc] := RowAt.box w #[.slice pa p.cells.length pc, .slice qa p.free.length qc] 26
  have B := B.below (show Below (w.alloc (.cells #[.slice pa p.cells.length pc, .slice qa p.free.length qc] 26)).heap.size (w.alloc (.cells #[.slice pa p.cells.length pc, .slice qa p.free.length qc] 26)) ((w.alloc (.cells #[.slice pa p.cells.length pc, .slice qa p.free.length qc] 26)).alloc (.cells #[.int .i64 c.kind, .int .i64 c.n, .string c.s, .int .i64 c.a.kind, .int .i64 c.a.n, .string c.a.s, .int .i64 c.b.kind, .int .i64 c.b.n, .string c.b.s] 30)) by go_grown)
  have D : RowAt ((w.alloc (.cells #[.slice pa p.cells.length pc, .slice qa p.free.length qc] 26)).alloc (.cells #[.int .i64 c.kind, .int .i64 c.n, .string c.s, .int .i64 c.a.kind, .int .i64 c.a.n, .string c.a.s, .int .i64 c.b.kind, .int .i64 c.b.n, .string c.b.s] 30)) (w.heap.size + 1) 0 [.int .i64 c.kind, .int .i64 c.n, .string c.s, .int .i64 c.a.kind, .int .i64 c.a.n, .string c.a.s, .int .i64 c.b.kind, .int .i64 c.b.n, .string c.b.s] := by have h := RowAt.box (w.alloc (.cells #[.slice pa p.cells.length pc, .slice qa p.free.length qc] 26)) #[.int .i64 c.kind, .int .i64 c.n, .string c.s, .int .i64 c.a.kind, .int .i64 c.a.n, .string c.a.s, .int .i64 c.b.kind, .int .i64 c.b.n, .string c.b.s] 30; simp only [World.size_alloc] at h; exact h
  have B := B.below (show Below ((w.alloc (.cells #[.slice pa p.cells.length pc, .slice qa p.free.length qc] 26)).alloc (.cells #[.int .i64 c.kind, .int .i64 c.n, .string c.s, .int .i64 c.a.kind, .int .i64 c.a.n, .string c.a.s, .int .i64 c.b.kind, .int .i64 c.b.n, .string c.b.s] 30)).heap.size ((w.alloc (.cells #[.slice pa p.cells.length pc, .slice qa p.free.length qc] 26)).alloc (.cells #[.int .i64 c.kind, .int .i64 c.n, .string c.s, .int .i64 c.a.kind, .int .i64 c.a.n, .string c.a.s, .int .i64 c.b.kind, .int .i64 c.b.n, .string c.b.s] 30)) (((w.alloc (.cells #[.slice pa p.cells.length pc, .slice qa p.free.length qc] 26)).alloc (.cells #[.int .i64 c.kind, .int .i64 c.n, .string c.s, .int .i64 c.a.kind, .int .i64 c.a.n, .string c.a.s, .int .i64 c.b.kind, .int .i64 c.b.n, .string c.b.s] 30)).alloc (.cells #[.slice none 0 0, .slice none 0 0] 26)) by go_grown)
  have D := D.below (show Below ((w.alloc (.cells #[.slice pa p.cells.length pc, .slice qa p.free.length qc] 26)).alloc (.cells #[.int .i64 c.kind, .int .i64 c.n, .string c.s, .int .i64 c.a.kind, .int .i64 c.a.n, .string c.a.s, .int .i64 c.b.kind, .int .i64 c.b.n, .string c.b.s] 30)).heap.size ((w.alloc (.cells #[.slice pa p.cells.length pc, .slice qa p.free.length qc] 26)).alloc (.cells #[.int .i64 c.kind, .int .i64 c.n, .string c.s, .int .i64 c.a.kind, .int .i64 c.a.n, .string c.a.s, .int .i64 c.b.kind, .int .i64 c.b.n, .string c.b.s] 30)) (((w.alloc (.cells #[.slice pa p.cells.length pc, .slice qa p.free.length qc] 26)).alloc (.cells #[.int .i64 c.kind, .int .i64 c.n, .string c.s, .int .i64 c.a.kind, .int .i64 c.a.n, .string c.a.s, .int .i64 c.b.kind, .int .i64 c.b.n, .string c.b.s] 30)).alloc (.cells #[.slice none 0 0, .slice none 0 0] 26)) by go_grown)
  have E : RowAt (((w.alloc (.cells #[.slice pa p.cells.length pc, .slice qa p.free.length qc] 26)).alloc (.cells #[.int .i64 c.kind, .int .i64 c.n, .string c.s, .int .i64 c.a.kind, .int .i64 c.a.n, .string c.a.s, .int .i64 c.b.kind, .int .i64 c.b.n, .string c.b.s] 30)).alloc (.cells #[.slice none 0 0, .slice none 0 0] 26)) (w.heap.size + 1 + 1) 0 [.slice none 0 0, .slice none 0 0] := by have h := RowAt.box ((w.alloc (.cells #[.slice pa p.cells.length pc, .slice qa p.free.length qc] 26)).alloc (.cells #[.int .i64 c.kind, .int .i64 c.n, .string c.s, .int .i64 c.a.kind, .int .i64 c.a.n, .string c.a.s, .int .i64 c.b.kind, .int .i64 c.b.n, .string c.b.s] 30)) #[.slice none 0 0, .slice none 0 0] 26; simp only [World.size_alloc] at h; exact h
  have EW : Wr (((w.alloc (.cells #[.slice pa p.cells.length pc, .slice qa p.free.length qc] 26)).alloc (.cells #[.int .i64 c.kind, .int .i64 c.n, .string c.s, .int .i64 c.a.kind, .int .i64 c.a.n, .string c.a.s, .int .i64 c.b.kind, .int .i64 c.b.n, .string c.b.s] 30)).alloc (.cells #[.slice none 0 0, .slice none 0 0] 26)) (w.heap.size + 1 + 1) 0 2 := by have h := Wr.box ((w.alloc (.cells #[.slice pa p.cells.length pc, .slice qa p.free.length qc] 26)).alloc (.cells #[.int .i64 c.kind, .int .i64 c.n, .string c.s, .int .i64 c.a.kind, .int .i64 c.a.n, .string c.a.s, .int .i64 c.b.kind, .int .i64 c.b.n, .string c.b.s] 30)) #[.slice none 0 0, .slice none 0 0] 26; simp only [World.size_alloc] at h; exact h
  have hw : Below w.heap.size w (((w.alloc (.cells #[.slice pa p.cells.length pc, .slice qa p.free.length qc] 26)).alloc (.cells #[.int .i64 c.kind, .int .i64 c.n, .string c.s, .int .i64 c.a.kind, .int .i64 c.a.n, .string c.a.s, .int .i64 c.b.kind, .int .i64 c.b.n, .string c.b.s] 30)).alloc (.cells #[.slice none 0 0, .slice none 0 0] 26)) := by go_grown
  generalize (((w.alloc (.cells #[.slice pa p.cells.length pc, .slice qa p.free.length qc] 26)).alloc (.cells #[.int .i64 c.kind, .int .i64 c.n, .string c.s, .int .i64 c.a.kind, .int .i64 c.a.n, .string c.a.s, .int .i64 c.b.kind, .int .i64 c.b.n, .string c.b.s] 30)).alloc (.cells #[.slice none 0 0, .slice none 0 0] 26)) = w0 at *
  obtain ⟨b_0, b_1⟩ := B.box2; have hsB := World.block_lt_of_cell? _ _ b_0; dsimp only at hsB; obtain ⟨d_0, d_1, d_2, d_3, d_4, d_5, d_6, d_7, d_8⟩ := D.box9; have hsD := World.block_lt_of_cell? _ _ d_0; dsimp only at hsD; have ef_0 := EW.frz 0 (by omega); have ef_1 := EW.frz 1 (by omega); obtain ⟨e_0, e_1⟩ := E.box2; have hsE := World.block_lt_of_cell? _ _ e_0; dsimp only at hsE
  go_region_held3 (fun w' => w'.cell? ⟨w.heap.size, 0, none⟩ = some (.slice pa p.cells.length pc) ∧ w'.cell? ⟨w.heap.size, 1, none⟩ = some (.slice qa p.free.length qc) ∧ w'.cell? ⟨w.heap.size + 1, 0, none⟩ = some (.int .i64 c.kind) ∧ w'.cell? ⟨w.heap.size + 1, 1, none⟩ = some (.int .i64 c.n) ∧ w'.cell? ⟨w.heap.size + 1, 2, none⟩ = some (.string c.s) ∧ w'.cell? ⟨w.heap.size + 1, 3, none⟩ = some (.int .i64 c.a.kind) ∧ w'.cell? ⟨w.heap.size + 1, 4, none⟩ = some (.int .i64 c.a.n) ∧ w'.cell? ⟨w.heap.size + 1, 5, none⟩ = some (.string c.a.s) ∧ w'.cell? ⟨w.heap.size + 1, 6, none⟩ = some (.int .i64 c.b.kind) ∧ w'.cell? ⟨w.heap.size + 1, 7, none⟩ = some (.int .i64 c.b.n) ∧ w'.cell? ⟨w.heap.size + 1, 8, none⟩ = some (.string c.b.s))
    (first | go_keep | (refine ⟨cell_below hbk ?_, cell_below hbk ?_, cell_below hbk ?_, cell_below hbk ?_, cell_below hbk ?_, cell_below hbk ?_, cell_below hbk ?_, cell_below hbk ?_, cell_below hbk ?_, cell_below hbk ?_, cell_below hbk ?_⟩ <;> go_keep))
    (first
      | (go_at_call 11; (with_reducible refine (c1.out _ ?_).mono ?_); (first | exact hw | exact hw.drew | go_grown); rintro en w5 ⟨rfl, hbk⟩; have hv5 : Below w0.heap.size w0 w5 := Below.trans (by go_grown) hbk; have hw5 : Below w.heap.size w w5 := (show Below w.heap.size w w0.drew by go_grown).trans (hbk.mono (by simp; omega)); have E5 := E.below (Below.trans (by go_grown) hbk); have EW5 := EW.below (Below.trans (by go_grown) hbk))
      | (go_at_call 40; (with_reducible refine (c2.out _ hw5).mono ?_); rintro en w6 ⟨g, rfl, hg1, hg2, hM, hbk⟩; have hv6 := hv5.trans (hbk.mono hv5.size); have hw6 : Below w.heap.size w w6 := hw5.trans (hbk.mono hw5.size); have E6 := E5.below hbk; have EW6 := EW5.below hbk)
      | (go_at_call 39; (with_reducible refine (c3.out _ hw6 _ (hM.sl (Nat.le_refl _) (by omega))).mono ?_); rintro en w7 ⟨rfl, hbk⟩; have hv7 := hv6.trans (hbk.mono hv6.size); have hw7 : Below w.heap.size w w7 := hw6.trans (hbk.mono hw6.size); have E7 := E6.below hbk; have EW7 := EW6.below hbk))
  obtain ⟨e7_0, e7_1⟩ := E7.box2; have hsE7 := World.block_lt_of_cell? _ _ e7_0; dsimp only at hsE7; have e7f_0 := EW7.frz 0 (by omega); have e7f_1 := EW7.frz 1 (by omega)
  have e7f_0 := EW7.frz 0 (by omega); have e7f_1 := EW7.frz 1 (by omega)
  obtain ⟨b7_0, b7_1⟩ := (B.below hv7).box2
  have D7 := D.below hv7
  clear hM
  by_cases h0 : p.free.length = 0
  · have hz := hfull.out h0
    have d1 : decide ((p.free.length : Int) - 1 < 0) = true := decide_eq_true (by omega)
    replace h0 := Lib.hid h0; replace hz := Lib.hid hz
    go_wp2_with fail
    have q := stored2 (x := .slice none 0 0) (y := .slice none 0 0) e7_0 e7_1
    refine bodyPost_ret (v := .tuple #[.agg #[.slice none 0 0, .slice none 0 0], .int .i64 0, .int .i64 2]) (by simp [results, Try.results9, go_sem, q.1, q.2]) rfl ?_
    exact hz.out _ (below_set2 hw7 (by omega) _ _)
  · obtain ⟨m, hm⟩ : ∃ m, p.free.length = m + 1 := ⟨p.free.length - 1, by omega⟩
    have hn0 : 0 < p.cells.length := by omega
    have d1 : decide ((p.free.length : Int) - 1 < 0) = false := decide_eq_false (by omega)
    replace c4 := c4.out
    rw [hm] at c4
    replace c4 := Lib.hid c4
    have hmh := Lib.hid hm
    go_upto_region 7 with (go_at_call 41; (with_reducible refine (c4.out _ hw7).mono ?_); rintro en w8 ⟨v0, v1, rfl, OP, hbk⟩; obtain ⟨gc, cc, rfl, hgc1, hgc2, hcc, hccm, hcR, hcW⟩ := own_cells OP.cells.1 hn0; have OF : w8.ownsRow w7.heap.size 3 1 v1 (m + 1) (rowsOf intRow p.free) := hmh.out ▸ OP.free.1; obtain ⟨gf, cf, rfl, hgf1, hgf2, hcf, hcfm, hfR, hfW⟩ := own_cells OF (by omega); have hw8 : Below w.heap.size w w8 := hw7.trans (hbk.mono hw7.size); have E8 := E7.below hbk; have EW8 := EW7.below hbk; have D8 := D7.below hbk)
    obtain ⟨j, hjf, hjn⟩ : ∃ j : Nat, p.free[m]? = some (j : Int) ∧ j < p.cells.length := by
      obtain ⟨f, hf⟩ : ∃ f, p.free[m]? = some f := ⟨_, List.getElem?_eq_getElem (by omega)⟩
      obtain ⟨j, rfl, h⟩ := hp3.out m f hf
      exact ⟨j, hf, h⟩
    have hfm : w8.cell? ⟨gf, m, none⟩ = some (.int .i64 (j : Int)) := by
      have := hfR m (.int .i64 (j : Int)) (by simpa using flatInt.get (j := 0) (c := .int .i64 (j : Int)) hjf rfl)
      simpa using this
    replace hjf := Lib.hid hjf
    clear hfR hfW OF c1 c2 c3 c4 hcR
    obtain ⟨w9, hW9⟩ : ∃ W, W = w8.alloc (.cells #[.slice (some ⟨gc, 0, none⟩) p.cells.length cc, .slice (some ⟨gf, 0, none⟩) (m + 1) cf] 26) := ⟨_, rfl⟩
    rw [← hW9]
    have hb9 : Below w8.heap.size w8 w9 := by rw [hW9]; go_grown
    have Q : RowAt w9 w8.heap.size 0 [.slice (some ⟨gc, 0, none⟩) p.cells.length cc, .slice (some ⟨gf, 0, none⟩) (m + 1) cf] := by rw [hW9]; exact RowAt.box w8 #[_, _] _
    have QW : Wr w9 w8.heap.size 0 2 := by rw [hW9]; exact Wr.box w8 #[_, _] _
    clear hW9
    replace hfm := cell_below hb9 hfm
    obtain ⟨q_0, q_1⟩ := Q.box2
    have qf_1 := QW.frz 1 (by omega)
    go_upto_region 9 with fail
    obtain ⟨w10, hW10⟩ : ∃ W, W = w9.setCell ⟨w8.heap.size, 1, none⟩ (.slice (some ⟨gf, 0, none⟩) m cf) := ⟨_, rfl⟩
    rw [← hW10]
    have hb10 : Below w8.heap.size w8 w10 := by rw [hW10]; exact hb9.setCell (p := ⟨w8.heap.size, 1, none⟩) (Nat.le_refl _) _
    have Q10 : RowAt w10 w8.heap.size 0 [.slice (some ⟨gc, 0, none⟩) p.cells.length cc, .slice (some ⟨gf, 0, none⟩) m cf] := by
      have q := stored2' (y := .slice (some ⟨gf, 0, none⟩) m cf) q_0 q_1
      rw [← hW10] at q
      exact RowAt.of2 q.1 q.2
    clear hW10 hb9 Q QW hfm q_0 q_1 qf_1
    have E10 := E8.below hb10; have EW10 := EW8.below hb10; have D10 := D8.below hb10; have OP10 := OP.below hb10; have hw10 := hw8.trans (hb10.mono hw8.size); have hcW10 := hcW.below hb10
    clear E8 EW8 D8 hcW E7 EW7 D7
    have hs10 : w8.heap.size < w10.heap.size := World.block_lt_of_cell? _ _ Q10.box2.1
    have hA : Arr w10 gc (p.cells.length * 9) := fun t ht => by simpa using hcW10 t ht
    clear hcW10 hb10
    obtain ⟨x0, k0, f0⟩ := hA (j * 9) (by omega); obtain ⟨x1, k1, f1⟩ := hA (j * 9 + 1) (by omega); obtain ⟨x2, k2, f2⟩ := hA (j * 9 + 2) (by omega); obtain ⟨x3, k3, f3⟩ := hA (j * 9 + 3) (by omega); obtain ⟨x4, k4, f4⟩ := hA (j * 9 + 4) (by omega); obtain ⟨x5, k5, f5⟩ := hA (j * 9 + 5) (by omega); obtain ⟨x6, k6, f6⟩ := hA (j * 9 + 6) (by omega); obtain ⟨x7, k7, f7⟩ := hA (j * 9 + 7) (by omega); obtain ⟨x8, k8, f8⟩ := hA (j * 9 + 8) (by omega)
    obtain ⟨q_0, q_1⟩ := Q10.box2
    obtain ⟨d10_0, d10_1, d10_2, d10_3, d10_4, d10_5, d10_6, d10_7, d10_8⟩ := D10.box9; have hsD10 := World.block_lt_of_cell? _ _ d10_0; dsimp only at hsD10
    go_upto_region 10 with fail
    obtain ⟨w11, hW11⟩ : ∃ W, W = storeRow w10 gc (j * 9) (cellRow c) := ⟨_, rfl⟩
    change Code.wp _ _ _ _ (storeRow w10 gc (j * 9) (cellRow c))
    rw [← hW11]
    have K11 : Kept (· = gc) w10 w11 := by rw [hW11]; exact kept_storeRow gc _ _ (Kept.refl _ _)
    have E11 := E10.kept K11 (by have := hw7.size; omega)
    have EW11 := EW10.kept K11 (by have := hw7.size; omega)
    have Q11 := Q10.kept K11 (by omega)
    have hend := fun u0 u1 => pm_end (w := w) (lo := w.heap.size) (E := w.heap.size + 1 + 1) (c := c) rfl hm OP10 hjn hc hsE7 (by omega) hw10 u0 u1
    rw [← hW11] at hend
    replace hend := Lib.hid hend
    clear hW11 k0 k1 k2 k3 k4 k5 k6 k7 k8 f0 f1 f2 f3 f4 f5 f6 f7 f8 q_0 q_1 d10_0 d10_1 d10_2 d10_3 d10_4 d10_5 d10_6 d10_7 d10_8 hA
    obtain ⟨q_0, q_1⟩ := Q11.box2
    obtain ⟨e_0, e_1⟩ := E11.box2
    have ef_0 := EW11.frz 0 (by omega); have ef_1 := EW11.frz 1 (by omega)
    go_wp2_with fail
    have q := stored2 (x := .slice (some ⟨gc, 0, none⟩) p.cells.length cc) (y := .slice (some ⟨gf, 0, none⟩) m cf) e_0 e_1
    refine bodyPost_ret (v := .tuple #[.agg #[.slice (some ⟨gc, 0, none⟩) p.cells.length cc, .slice (some ⟨gf, 0, none⟩) m cf], .int .i64 (j : Int), .int .i64 0]) (by simp [results, Try.results9, go_sem, q.1, q.2]) rfl ?_
    have hz := hend.out (.slice (some ⟨gc, 0, none⟩) p.cells.length cc) (.slice (some ⟨gf, 0, none⟩) m cf)
    exact hyes.out _ m j _ _ hmh.out hjf.out hz.1 hz.2

end Go.Proofs.Ytajbgkpjmgmdhaa
