/- Copies of a pool: the program's clone, the reference's l20Copy. -/
import Derived.Test.YtajbgkpjmgmdhaaPoolOwn
namespace Go.Proofs.Ytajbgkpjmgmdhaa
open Go.RowKit
set_option linter.unusedVariables false
set_option linter.unusedSimpArgs false
attribute [local go_sem] Ext.cell

theorem own_pool_end {w W : World} {u0 u1 : Value} {p : GPool} {lo : Nat} (hA : OwnCells lo W u0 p.cells) (hB : OwnInts lo W u1 p.free) (hap : ∀ g, u0.ownBlock = some g → u1.ownBlock ≠ some g) (hb : Below w.heap.size w W) (hl : w.heap.size + 1 < lo) (x y : Value) :
    OwnPool w.heap.size ((W.setCell ⟨w.heap.size + 1, 0, none⟩ x).setCell ⟨w.heap.size + 1, 1, none⟩ y) u0 u1 p ∧ Below w.heap.size w ((W.setCell ⟨w.heap.size + 1, 0, none⟩ x).setCell ⟨w.heap.size + 1, 1, none⟩ y) := by
  have K : Kept (· = w.heap.size + 1) W ((W.setCell ⟨w.heap.size + 1, 0, none⟩ x).setCell ⟨w.heap.size + 1, 1, none⟩ y) := Kept.set (S := (· = w.heap.size + 1)) (Kept.set (S := (· = w.heap.size + 1)) (Kept.refl _ W) (p := ⟨w.heap.size + 1, 0, none⟩) rfl _) (p := ⟨w.heap.size + 1, 1, none⟩) rfl _
  refine ⟨⟨(hA.kept K fun g hg e => ?_).mono (by omega), (hB.kept K fun g hg e => ?_).mono (by omega), hap⟩, ?_⟩
  · have := (hA.base g hg).1; omega
  · have := (hB.base g hg).1; omega
  · exact Below.trans (hb.setCell (p := ⟨w.heap.size + 1, 0, none⟩) (by show w.heap.size ≤ w.heap.size + 1; omega) x) ((Below.refl w.heap.size _).setCell (p := ⟨w.heap.size + 1, 1, none⟩) (by show w.heap.size ≤ w.heap.size + 1; omega) y)

set_option maxRecDepth 100000 in
set_option maxHeartbeats 4000000 in
theorem clone_c (p : GPool) (r : List Value) (lo : Nat) (hlen : p.cells.length ≤ 1048576) (hlen2 : p.free.length ≤ 1048576) (w : World) (hp : GPool.R lo w r p) :
    Calls Try.prog 41 #[.agg r.toArray] w fun e w' => ∃ v0 v1, e = .returned (.agg #[v0, v1]) ∧ OwnPool w.heap.size w' v0 v1 p ∧ Below w.heap.size w w' := by
  obtain ⟨u0, u1, rfl, -, a0, a1⟩ := hp
  obtain ⟨pa, pc, rfl⟩ := a0.form
  obtain ⟨qa, qc, rfl⟩ := a1.form
  have c1 := fun W (hW : Below w.heap.size w W) => cloneCell_c p.cells _ lo hlen W (a0.below GCell.good hW)
  have c2 := fun W (hW : Below w.heap.size w W) => cloneInt_c p.free _ lo hlen2 W (a1.below IntR.good hW)
  replace c1 := Lib.hid c1; replace c2 := Lib.hid c2
  clear a0 a1
  go_enter Try.func41, Try.ntmps41
  go_upto_region 1 with fail
  have B : RowAt (w.alloc (.cells #[.slice pa p.cells.length pc, .slice qa p.free.length qc] 26)) (w.heap.size) 0 [.slice pa p.cells.length pc, .slice qa p.free.length qc] := RowAt.box w #[.slice pa p.cells.length pc, .slice qa p.free.length qc] 26
  have B := B.below (show Below (w.alloc (.cells #[.slice pa p.cells.length pc, .slice qa p.free.length qc] 26)).heap.size (w.alloc (.cells #[.slice pa p.cells.length pc, .slice qa p.free.length qc] 26)) ((w.alloc (.cells #[.slice pa p.cells.length pc, .slice qa p.free.length qc] 26)).alloc (.cells #[.slice none 0 0, .slice none 0 0] 26)) by go_grown)
  have D : RowAt ((w.alloc (.cells #[.slice pa p.cells.length pc, .slice qa p.free.length qc] 26)).alloc (.cells #[.slice none 0 0, .slice none 0 0] 26)) (w.heap.size + 1) 0 [.slice none 0 0, .slice none 0 0] := by have h := RowAt.box (w.alloc (.cells #[.slice pa p.cells.length pc, .slice qa p.free.length qc] 26)) #[.slice none 0 0, .slice none 0 0] 26; simp only [World.size_alloc] at h; exact h
  have DW : Wr ((w.alloc (.cells #[.slice pa p.cells.length pc, .slice qa p.free.length qc] 26)).alloc (.cells #[.slice none 0 0, .slice none 0 0] 26)) (w.heap.size + 1) 0 2 := by have h := Wr.box (w.alloc (.cells #[.slice pa p.cells.length pc, .slice qa p.free.length qc] 26)) #[.slice none 0 0, .slice none 0 0] 26; simp only [World.size_alloc] at h; exact h
  have hw : Below w.heap.size w ((w.alloc (.cells #[.slice pa p.cells.length pc, .slice qa p.free.length qc] 26)).alloc (.cells #[.slice none 0 0, .slice none 0 0] 26)) := by go_grown
  generalize ((w.alloc (.cells #[.slice pa p.cells.length pc, .slice qa p.free.length qc] 26)).alloc (.cells #[.slice none 0 0, .slice none 0 0] 26)) = w0 at *
  have hz := hw.size
  obtain ⟨b_0, b_1⟩ := B.box2; have hsB := World.block_lt_of_cell? _ _ b_0; dsimp only at hsB; obtain ⟨d_0, d_1⟩ := D.box2; have hsD := World.block_lt_of_cell? _ _ d_0; dsimp only at hsD
  go_region_held3 (fun w' => w'.cell? ⟨w.heap.size, 0, none⟩ = some (.slice pa p.cells.length pc) ∧ w'.cell? ⟨w.heap.size, 1, none⟩ = some (.slice qa p.free.length qc))
    (first | go_keep | (refine ⟨cell_below hbk ?_, cell_below hbk ?_⟩ <;> go_keep))
    (first
      | (go_at_call 73; (with_reducible refine (c1.out _ ?_).mono ?_); (first | exact hw | exact hw.drew | go_grown); rintro en w5 ⟨vc, rfl, OC, hbk⟩; obtain ⟨ca, cc, rfl⟩ := OC.form; have hw5 : Below w.heap.size w w5 := (show Below w.heap.size w w0.drew by go_grown).trans (hbk.mono (by simp; omega)); have hob := OC.base; have D5 := D.below (Below.trans (by go_grown) hbk); have DW5 := DW.below (Below.trans (by go_grown) hbk); have hz5 := hbk.size)
      | (go_at_call 74; (with_reducible refine (c2.out _ hw5).mono ?_); rintro en w6 ⟨vi, rfl, OI, hbk⟩; obtain ⟨ia, ic, rfl⟩ := OI.form; have hw6 : Below w.heap.size w w6 := hw5.trans (hbk.mono hw5.size); have OC6 := OC.below hbk; have hoi := OI.base; have D6 := D5.below hbk; have DW6 := DW5.below hbk; obtain ⟨d6_0, d6_1⟩ := D6.box2; have f6_0 := DW6.frz 0 (by omega); have f6_1 := DW6.frz 1 (by omega)))
  have e0 := cell_setCell_eq w6 (w.heap.size + 1) 0 (.slice ca p.cells.length cc) d6_0
  have e1 := cell_setCell_eq (w6.setCell ⟨w.heap.size + 1, 0, none⟩ (.slice ca p.cells.length cc)) (w.heap.size + 1) 1 (.slice ia p.free.length ic) ((cell_setCell_ne w6 (w.heap.size + 1) 0 1 _ (by omega)).trans d6_1)
  go_wp2
  refine bodyPost_ret (v := .agg #[.slice ca p.cells.length cc, .slice ia p.free.length ic]) (by simp [results, Try.results41, go_sem, e0, e1]) rfl ?_
  have hb := Below.trans (hw6.setCell (p := ⟨w.heap.size + 1, 0, none⟩) (by show w.heap.size ≤ w.heap.size + 1; omega) (.slice ca p.cells.length cc)) ((Below.refl w.heap.size _).setCell (p := ⟨w.heap.size + 1, 1, none⟩) (by show w.heap.size ≤ w.heap.size + 1; omega) (.slice ia p.free.length ic))
  refine ⟨_, _, rfl, ?_, hb⟩
  have K : Kept (· = w.heap.size + 1) w6 ((w6.setCell ⟨w.heap.size + 1, 0, none⟩ (.slice ca p.cells.length cc)).setCell ⟨w.heap.size + 1, 1, none⟩ (.slice ia p.free.length ic)) := Kept.set (S := (· = w.heap.size + 1)) (Kept.set (S := (· = w.heap.size + 1)) (Kept.refl _ w6) (p := ⟨w.heap.size + 1, 0, none⟩) rfl _) (p := ⟨w.heap.size + 1, 1, none⟩) rfl _
  have hd : w.heap.size + 1 < w0.drew.heap.size := by simpa using hsD
  refine ⟨(OC6.mono (by omega)).kept K (fun g hg e => ?_), (OI.mono (by omega)).kept K (fun g hg e => ?_), fun g h1 h2 => ?_⟩
  · have := (hob g hg).1; omega
  · have := (hoi g hg).1; omega
  · have := (hob g h1).2; have := (hoi g h2).1; omega

set_option maxRecDepth 100000 in
set_option maxHeartbeats 8000000 in
theorem l20Copy_c (p : GPool) (r : List Value) (lo : Nat) (hlen : p.cells.length ≤ 1048576) (hlen2 : p.free.length ≤ 1048576) (w : World) (hp : GPool.R lo w r p) :
    Calls Try.prog 44 #[.agg r.toArray] w fun e w' => ∃ v0 v1, e = .returned (.agg #[v0, v1]) ∧ OwnPool w.heap.size w' v0 v1 p ∧ Below w.heap.size w w' := by
  obtain ⟨u0, u1, rfl, -, a0, a1⟩ := hp
  obtain ⟨pa, pc, rfl⟩ := a0.form
  obtain ⟨qa, qc, rfl⟩ := a1.form
  obtain ⟨i0, hi0, hz0, hz1, hz2⟩ := info_parts info_CellS
  have I := Lib.hid hi0; have I0 := Lib.hid hz0; have I1 := Lib.hid hz1; have I2 := Lib.hid hz2
  clear hi0 hz0 hz1 hz2
  obtain ⟨j0, hi0, hz0, hz1, hz2⟩ := info_parts info_IntS
  have J := Lib.hid hi0; have J0 := Lib.hid hz0; have J1 := Lib.hid hz1; have J2 := Lib.hid hz2
  clear hi0 hz0 hz1 hz2
  replace a0 := Lib.hid a0; replace a1 := Lib.hid a1
  generalize hn : p.cells.length = n at *
  generalize hm : p.free.length = m at *
  replace hn := Lib.hid hn; replace hm := Lib.hid hm
  go_enter Try.func44, Try.ntmps44
  go_upto_region 1 with fail
  have B : RowAt (w.alloc (.cells #[.slice pa n pc, .slice qa m qc] 26)) (w.heap.size) 0 [.slice pa n pc, .slice qa m qc] := RowAt.box w #[.slice pa n pc, .slice qa m qc] 26
  have B := B.below (show Below (w.alloc (.cells #[.slice pa n pc, .slice qa m qc] 26)).heap.size (w.alloc (.cells #[.slice pa n pc, .slice qa m qc] 26)) ((w.alloc (.cells #[.slice pa n pc, .slice qa m qc] 26)).alloc (.cells #[.slice none 0 0, .slice none 0 0] 26)) by go_grown)
  have D : RowAt ((w.alloc (.cells #[.slice pa n pc, .slice qa m qc] 26)).alloc (.cells #[.slice none 0 0, .slice none 0 0] 26)) (w.heap.size + 1) 0 [.slice none 0 0, .slice none 0 0] := by have h := RowAt.box (w.alloc (.cells #[.slice pa n pc, .slice qa m qc] 26)) #[.slice none 0 0, .slice none 0 0] 26; simp only [World.size_alloc] at h; exact h
  have DW : Wr ((w.alloc (.cells #[.slice pa n pc, .slice qa m qc] 26)).alloc (.cells #[.slice none 0 0, .slice none 0 0] 26)) (w.heap.size + 1) 0 2 := by have h := Wr.box (w.alloc (.cells #[.slice pa n pc, .slice qa m qc] 26)) #[.slice none 0 0, .slice none 0 0] 26; simp only [World.size_alloc] at h; exact h
  have hw : Below w.heap.size w ((w.alloc (.cells #[.slice pa n pc, .slice qa m qc] 26)).alloc (.cells #[.slice none 0 0, .slice none 0 0] 26)) := by go_grown
  generalize ((w.alloc (.cells #[.slice pa n pc, .slice qa m qc] 26)).alloc (.cells #[.slice none 0 0, .slice none 0 0] 26)) = w0 at *
  have hz := hw.size
  obtain ⟨b_0, b_1⟩ := B.box2; have hsB := World.block_lt_of_cell? _ _ b_0; dsimp only at hsB; obtain ⟨d_0, d_1⟩ := D.box2; have hsD := World.block_lt_of_cell? _ _ d_0; dsimp only at hsD
  go_region_held3 (fun w' => w'.cell? ⟨w.heap.size, 0, none⟩ = some (.slice pa n pc) ∧ w'.cell? ⟨w.heap.size, 1, none⟩ = some (.slice qa m qc))
    (go_keep)
    (first
      | (refine step_append_sl _ flatCell (by rfl) _ _ _ (by rfl) w0.heap.size 30 i0 _ 96 Try.underlying23 I.out I0.out I1.out I2.out rfl _ 0 0 [] (by rfl) (own_empty_at (by (try simp only [heap_alloc_ite, heap_drew, World.size_alloc, World.size_drew]); first | (simp; done) | (refine (hgB.block _ ?_ ?_).trans ?_ <;> (try simp only [heap_alloc_ite, heap_drew, World.size_alloc, World.size_drew]) <;> (try simp) <;> (try omega); done)) (by first | exact Nat.le_refl _ | (simp; done) | (simp; omega) | omega)) lo _ p.cells (by rfl) (a0.out.below GCell.good (by go_grown)) (by rw [hn.out]; unfold maxLen; omega) (by rw [hn.out]; omega) (by first | (simp; done) | (simp; omega) | (have h := hgB.size; simp at h ⊢; omega)) ?_; rw [hn.out]; intro gA cA wA hA hgA hga; (try simp only [World.size_alloc, World.size_drew] at hga); have hwA : Below w.heap.size w wA := Below.grown (show Below w.heap.size w _ by go_grown) hgA (by first | exact (by assumption : Below w.heap.size w _).size | (simp; omega)) (fun k hk => by simp at hk; omega); have hyA := hwA.size; have hzA : w0.heap.size + 1 ≤ wA.heap.size := (by have h := hgA.size; (try simp at h); omega); have hlA : w0.heap.size ≤ gA ∧ gA < wA.heap.size := own_base hA _ rfl; have hvA : Below w0.heap.size w0 wA := Below.grown (show Below w0.heap.size w0 _ by go_grown) hgA (by first | (simp; done) | (simp; omega) | exact (by assumption : Below w0.heap.size w0 _).size) (fun k hk => by simp at hk; omega); obtain ⟨dA0, dA1⟩ := (D.below hvA).box2; have fA0 := (DW.below hvA).frz 0 (by omega); have fA1 := (DW.below hvA).frz 1 (by omega); have eA0 : wA.cell? ⟨w.heap.size, 0, none⟩ = some (.slice pa n pc) := hgA.cell (by go_keep) (by simp; omega); have eA1 : wA.cell? ⟨w.heap.size, 1, none⟩ = some (.slice qa m qc) := hgA.cell (by go_keep) (by simp; omega); (try replace hB := (own_below hB (by go_grown)).kept hgA (.inr (by have h2 : gB < _ := (own_base hB _ rfl).2; intro h; simp [Value.ownBlock] at h; omega))))
      | (refine step_append_sl _ flatInt (by rfl) _ _ _ (by rfl) w0.heap.size 3 j0 _ 8 Try.underlying24 J.out J0.out J1.out J2.out rfl _ 0 0 [] (by rfl) (own_empty_at (by (try simp only [heap_alloc_ite, heap_drew, World.size_alloc, World.size_drew]); first | (simp; done) | (refine (hgA.block _ ?_ ?_).trans ?_ <;> (try simp only [heap_alloc_ite, heap_drew, World.size_alloc, World.size_drew]) <;> (try simp) <;> (try omega); done)) (by first | exact Nat.le_refl _ | (simp; done) | (simp; omega) | omega)) lo _ p.free (by rfl) (a1.out.below IntR.good (by go_grown)) (by rw [hm.out]; unfold maxLen; omega) (by rw [hm.out]; omega) (by first | (simp; done) | (simp; omega) | (have h := hgA.size; simp at h ⊢; omega)) ?_; rw [hm.out]; intro gB cB wB hB hgB hgb; (try simp only [World.size_alloc, World.size_drew] at hgb); have hwB : Below w.heap.size w wB := Below.grown (show Below w.heap.size w _ by go_grown) hgB (by first | exact (by assumption : Below w.heap.size w _).size | (simp; omega)) (fun k hk => by simp at hk; omega); have hyB := hwB.size; have hzB : w0.heap.size + 1 ≤ wB.heap.size := (by have h := hgB.size; (try simp at h); omega); have hlB : w0.heap.size ≤ gB ∧ gB < wB.heap.size := own_base hB _ rfl; have hvB : Below w0.heap.size w0 wB := Below.grown (show Below w0.heap.size w0 _ by go_grown) hgB (by first | (simp; done) | (simp; omega) | exact (by assumption : Below w0.heap.size w0 _).size) (fun k hk => by simp at hk; omega); obtain ⟨dB0, dB1⟩ := (D.below hvB).box2; have fB0 := (DW.below hvB).frz 0 (by omega); have fB1 := (DW.below hvB).frz 1 (by omega); have eB0 : wB.cell? ⟨w.heap.size, 0, none⟩ = some (.slice pa n pc) := hgB.cell (by go_keep) (by simp; omega); have eB1 : wB.cell? ⟨w.heap.size, 1, none⟩ = some (.slice qa m qc) := hgB.cell (by go_keep) (by simp; omega); (try replace hA := (own_below hA (by go_grown)).kept hgB (.inr (by have h2 : gA < _ := (own_base hA _ rfl).2; intro h; simp [Value.ownBlock] at h; omega)))))
  all_goals
    first
    | (
      have hN : OwnCells w0.heap.size wB (.slice (some ⟨gA, 0, none⟩) n cA) p.cells := ⟨by rw [hn.out]; simpa using hA, flatCell.wfs a0.out⟩
      have hM : OwnInts w0.heap.size wB (.slice (some ⟨gB, 0, none⟩) m cB) p.free := ⟨by rw [hm.out]; simpa using hB, flatInt.wfs a1.out⟩
      have hE := own_pool_end hN hM (fun g h1 h2 => by simp [Value.ownBlock] at h1 h2; omega) hwB hsD (.slice (some ⟨gA, 0, none⟩) n cA) (.slice (some ⟨gB, 0, none⟩) m cB)
      have e0 := cell_setCell_eq wB (w.heap.size + 1) 0 (.slice (some ⟨gA, 0, none⟩) n cA) dB0
      have e1 := cell_setCell_eq (wB.setCell ⟨w.heap.size + 1, 0, none⟩ (.slice (some ⟨gA, 0, none⟩) n cA)) (w.heap.size + 1) 1 (.slice (some ⟨gB, 0, none⟩) m cB) ((cell_setCell_ne wB (w.heap.size + 1) 0 1 _ (by omega)).trans dB1)
      go_wp2
      refine bodyPost_ret (v := .agg #[.slice (some ⟨gA, 0, none⟩) n cA, .slice (some ⟨gB, 0, none⟩) m cB]) (by simp [results, Try.results44, go_sem, e0, e1]) rfl ?_
      exact ⟨_, _, rfl, hE.1, hE.2⟩)
    | (
      have hN : OwnCells w0.heap.size wA (.slice (some ⟨gA, 0, none⟩) n cA) p.cells := ⟨by rw [hn.out]; simpa using hA, flatCell.wfs a0.out⟩
      have hM : OwnInts w0.heap.size wA (.slice (some ⟨gB, 0, none⟩) m cB) p.free := ⟨by rw [hm.out]; simpa using hB, flatInt.wfs a1.out⟩
      have hE := own_pool_end hN hM (fun g h1 h2 => by simp [Value.ownBlock] at h1 h2; omega) hwA hsD (.slice (some ⟨gA, 0, none⟩) n cA) (.slice (some ⟨gB, 0, none⟩) m cB)
      have e0 := cell_setCell_eq wA (w.heap.size + 1) 0 (.slice (some ⟨gA, 0, none⟩) n cA) dA0
      have e1 := cell_setCell_eq (wA.setCell ⟨w.heap.size + 1, 0, none⟩ (.slice (some ⟨gA, 0, none⟩) n cA)) (w.heap.size + 1) 1 (.slice (some ⟨gB, 0, none⟩) m cB) ((cell_setCell_ne wA (w.heap.size + 1) 0 1 _ (by omega)).trans dA1)
      go_wp2
      refine bodyPost_ret (v := .agg #[.slice (some ⟨gA, 0, none⟩) n cA, .slice (some ⟨gB, 0, none⟩) m cB]) (by simp [results, Try.results44, go_sem, e0, e1]) rfl ?_
      exact ⟨_, _, rfl, hE.1, hE.2⟩)

end Go.Proofs.Ytajbgkpjmgmdhaa
