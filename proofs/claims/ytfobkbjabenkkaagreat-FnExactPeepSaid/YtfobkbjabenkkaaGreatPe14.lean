/- Parts of the proof, merged: Copy3, Copy4, Find, Within. -/
import Derived.Test.YtfobkbjabenkkaaGreatRows
import Derived.Shelf.Abstract
import Derived.Test.YtfobkbjabenkkaaGreatPe13
/- Patterns' copies, a code's copy: the call's own. -/
namespace Go.Proofs.YtfobkbjabenkkaaGreat
open Go.RowKit
set_option linter.unusedVariables false
set_option linter.unusedSimpArgs false
attribute [local go_sem] Ext.cell

theorem GrowO.push {α : Type} {O : FootR α} {sz : Nat} {e : TypeId} {lo n : Nat} {w : World} {v : Value} {ps : List (List Nat)} {rows : List (List Value)} {xs : List α} {p : List Nat} {r : List Value} {x : α}
    (h : RowsO O sz w ps rows xs) (hn : n = xs.length) (hown : w.ownsRow lo e sz v (n + 1) (rows.flatten ++ r)) (hr : r.length = sz) (ho : O p w r x) : GrowO e sz O lo w v (ps ++ [p]) (xs ++ [x]) := by
  subst hn
  exact ⟨rows ++ [r], by rw [List.flatten_append, List.flatten_singleton, List.length_append]; exact hown, h.push hr ho⟩
/-- Behind an append: the blocks are still apart. -/
theorem fpO_push {v : Value} {g n cap s0 s1 : Nat} {ps : List (List Nat)} {bs : List Nat} (hnd : (fpO v ps).Nodup) (hlt : ∀ b ∈ fpO v ps, b < s0) (hb : bs.Nodup) (hb0 : ∀ b ∈ bs, s0 ≤ b) (hb1 : ∀ b ∈ bs, b < s1) (hs : s0 ≤ s1) (hat : v.ownBlock = some g ∨ g = s1) :
    (fpO (.slice (some ⟨g, 0, none⟩) n cap) (ps ++ [bs])).Nodup := by
  rw [fpO_slice, List.flatten_append, List.flatten_singleton, List.nodup_cons]
  have h1 : ps.flatten.Nodup := by unfold fpO at hnd; exact (List.nodup_append.1 hnd).2.1
  refine ⟨fun h => ?_, List.nodup_append.2 ⟨h1, hb, fun b h2 b2 h3 e => by subst e; have := hlt b (mem_fpO.2 (.inr h2)); have := hb0 b h3; omega⟩⟩
  rcases hat with hv | rfl
  · have h3 := hlt g (mem_fpO.2 (.inl hv))
    rcases List.mem_append.1 h with h | h
    · unfold fpO at hnd
      exact (List.nodup_append.1 hnd).2.2 g (by rw [hv]; simp) g h rfl
    · have := hb0 g h; omega
  · rcases List.mem_append.1 h with h | h
    · have := hlt g (mem_fpO.2 (.inr h)); omega
    · have := hb1 g h; omega

set_option maxRecDepth 100000 in
set_option maxHeartbeats 8000000 in
theorem copyPats_o (l : List GPat) (hl : l.length ≤ 1048576) (hS : ∀ q ∈ l, PatSmall q) (u : Value) (lo : Nat) (w : World) (hu : Sl GPat.R 1 lo w u l) :
    Calls Tryz.prog 79 #[u] w fun e w' => ∃ v bs, e = .returned v ∧ SlO 55 1 GPat.O bs w' v l ∧ bs.Nodup ∧ (∀ b ∈ bs, w.heap.size ≤ b) ∧ Below w.heap.size w w' := by
  obtain ⟨ua, uc, rfl, ul, um, h0⟩ := hu
  obtain ⟨n, hn⟩ : ∃ n, n = l.length := ⟨_, rfl⟩
  rw [← hn] at ul hl ⊢
  have cP := fun (q : GPat) (hq : q ∈ l) (r : List Value) (lo : Nat) (w : World) (hr : GPat.R lo w r q) => copyPat_o q (hS q hq) r lo w hr
  clear hS
  replace hn := Lib.hid hn; replace h0 := Lib.hid h0; replace cP := Lib.hid cP
  obtain ⟨iD, hi0, hz0, hz1, hz2⟩ := info_parts info_PatS; have ID := Lib.hid hi0; have ID0 := Lib.hid hz0; have ID1 := Lib.hid hz1; have ID2 := Lib.hid hz2; clear hi0 hz0 hz1 hz2
  go_enter Tryz.func79, Tryz.ntmps79
  go_upto_region 2 with fail
  obtain ⟨w1, hW1⟩ : ∃ W, W = w.alloc (.cells #[] 55) := ⟨_, rfl⟩
  rw [← hW1]
  have hw1 : Below w.heap.size w w1 := by rw [hW1]; go_grown
  have hs1 : w.heap.size < w1.heap.size := by rw [hW1]; simp
  have G1 : GrowO 55 1 GPat.O w.heap.size w1 (.slice (some ⟨w.heap.size, 0, none⟩) 0 0) [] ([] : List GPat) := ⟨[], own_empty_at (by rw [hW1]; exact heap_alloc_new' _ _ _ rfl) (Nat.le_refl _), RowsO.nil⟩
  clear hW1
  replace G1 := Lib.hid G1
  go_wp2_with fail
  go_loopw [3, 9] (fun v i wr => ∃ (k : Nat) (pss : List (List Nat)), k ≤ n ∧ i = .int .i64 k ∧ Below w.heap.size w wr ∧ Hid (GrowO 55 1 GPat.O w.heap.size wr v pss (l.take k)) ∧ Hid (fpO v pss).Nodup ∧ Hid (∀ b ∈ fpO v pss, w.heap.size ≤ b)) (fun _ i _ => n - (intOf i).toNat)
  case atStart => exact ⟨0, [], by omega, rfl, hw1, G1, by show (fpO _ _).Nodup; rw [fpO_slice]; simp, fun b hb => by rw [fpO_slice] at hb; simp at hb; omega⟩
  case round =>
    clear G1 hw1 hs1
    obtain ⟨k, pss, hk, rfl, hw, hG, hN, hL⟩ := hrel
    have hz := hw.size
    obtain ⟨va, vc, rfl⟩ := hG.out.form
    by_cases hlt : k < n
    · have hvl : (l.take k).length = k := by rw [List.length_take, ← hn.out]; omega
      obtain ⟨b1, o1, q, s1, _, rfl, P1, hx, r1⟩ := (h0.out.below GPat.good hw).get hn hlt
      have Hx := hx
      obtain ⟨u0, rfl, _, q0⟩ := hx
      obtain ⟨qa, qc, rfl⟩ := q0.form
      have e_0 : wr.cell? ⟨b1, o1 + k, none⟩ = some (.slice qa q.nodes.length qc) := by simpa using r1 0 _ rfl
      rw [hvl] at hG hN hL ⊢
      clear r1 q0
      have hltf := hG.out.lt GPat.ok
      go_upto_region 5 with fail
      obtain ⟨w3, hW3⟩ : ∃ W, W = wr.alloc (.cells #[.slice qa q.nodes.length qc] 55) := ⟨_, rfl⟩
      rw [← hW3]
      have hb3 : Below wr.heap.size wr w3 := by rw [hW3]; go_grown
      have N : RowAt w3 wr.heap.size 0 [.slice qa q.nodes.length qc] := by rw [hW3]; exact RowAt.box _ _ _
      have n_0 := N.box1
      have hs3 : wr.heap.size < w3.heap.size := World.block_lt_of_cell? _ _ n_0
      have cQ := cP.out q (List.mem_of_getElem? P1.out) _ lo w3 (GPat.good.below Hx hb3)
      clear hW3 e_0 Hx
      generalize q.nodes.length = nq at *
      replace cQ := Lib.hid cQ; replace hltf := Lib.hid hltf
      obtain ⟨rows, hown0, hrows⟩ := hG.out
      rw [hvl] at hown0
      replace hown0 := Lib.hid hown0; replace hrows := Lib.hid hrows
      have hob := own_base hown0.out
      replace hob := Lib.hid hob
      clear hG
      go_wp2_with (first | (go_at_call 97; (with_reducible refine (cQ.out).mono ?_); rintro e w4 ⟨r', bs, rfl, O4, hnd, hfr, hb4⟩; obtain ⟨u4, rfl, hwf4, s4⟩ := O4; obtain ⟨a4, c4, rfl⟩ := s4.form; have hb34 : Below wr.heap.size wr w4 := hb3.trans (hb4.mono (by omega)); have own4 := Lib.hid (own_below hown0.out hb34); have z4 := hb4.size; replace s4 := Lib.hid s4; replace hnd := Lib.hid hnd; replace hfr := Lib.hid hfr) | (at_builtin; refine wpList_append_lies _ rfl _ _ _ rfl (w.heap.size) 55 iD _ 1 24 Tryz.underlying28 ID.out ID0.out ID1.out ID2.out rfl (by omega) (.slice va k vc) (k) (rows.flatten) rfl (own_below own4.out (by go_grown)) ⟨w4.heap.size, 0, none⟩ 1 1 [.slice a4 q.nodes.length c4] rfl rfl (World.news_of_block (cs := #[.slice a4 q.nodes.length c4]) (t := 55) (fr := (0, 0)) (heap_alloc_new' _ _ _ (by simp))) (by intro u hu; simp at hu; (first | (subst hu; rfl) | (rcases hu with rfl | rfl | rfl | rfl <;> rfl) | (rcases hu with rfl | rfl | rfl | rfl | rfl | rfl | rfl | rfl | rfl <;> rfl))) (by omega) (by unfold maxLen; omega) (by omega) (by simp; omega) _ rfl ?_; intro g2 cap2 w6 hown hgrow hat hlt2))
      have k6 := kept_of hgrow (w := w4) (by go_grown)
      have hsA : (w4.alloc (.cells #[.slice a4 q.nodes.length c4] 55)).heap.size = w4.heap.size + 1 := by simp
      have hz6 : w4.heap.size + 1 ≤ w6.heap.size := by have := hgrow.size; rw [hsA] at this; exact this
      have hz34 := hb34.size
      have hN' := hN.out
      have hR6 := (hrows.out.below GPat.ok hb34).kept GPat.ok k6 (fun b hb e => by
        unfold fpO at hN'
        exact (List.nodup_append.1 hN').2.2 b (by rw [← e]; simp) b hb rfl)
      have hS6 := s4.out.kept GPNode.ok k6 (fun b hb e => by have h1 := (hob.out b e.symm).2; have h2 := hfr.out b hb; omega)
      have hG6 : GrowO 55 1 GPat.O w.heap.size w6 (.slice (some ⟨g2, 0, none⟩) (k + 1) cap2) (pss ++ [bs]) (l.take (k + 1)) := by
        rw [take_snoc' P1.out]
        exact GrowO.push hR6 hvl.symm hown rfl ⟨_, rfl, hwf4, hS6⟩
      have hN6 := fpO_push (n := k + 1) (cap := cap2) (s0 := wr.heap.size) (s1 := w4.heap.size + 1) hN' hltf.out hnd.out (fun b hb => by have := hfr.out b hb; omega) (fun b hb => by have := s4.out.lt GPNode.ok b hb; omega) (by omega) (by rw [← hsA]; exact hat)
      have hB6 : Below w.heap.size w w6 := below_grown2 (wr := wr) (w := w) (base := w.heap.size) hgrow (hb34.trans (by go_grown)) hw hz hown0.out
      replace hG6 := Lib.hid hG6; replace hN6 := Lib.hid hN6
      go_roundw
      case rel => exact ⟨k + 1, pss ++ [bs], by omega, by go_num, hB6, hG6, hN6, fun b hb => by
        rw [fpO_slice, List.flatten_append, List.flatten_singleton] at hb
        rcases List.mem_cons.1 hb with h | h
        · rcases hat with h2 | h2
          · exact h ▸ (hob.out g2 h2).1
          · rw [hsA] at h2; omega
        · rcases List.mem_append.1 h with h | h
          · exact hL.out b (mem_fpO.2 (.inr h))
          · have := hfr.out b h; omega⟩
      case measure => simp [intOf]; omega
    · obtain rfl : k = n := by omega
      have hvl : (l.take k).length = k := by rw [List.length_take, ← hn.out]; omega
      rw [hvl] at hG hN hL ⊢
      have hG' := hG.out
      rw [List.take_of_length_le (by rw [← hn.out]; exact Nat.le_refl _)] at hG'
      replace hG' := Lib.hid hG'
      go_wp2_with fail
      go_returns
      exact ⟨_, _, rfl, hG'.out.slO, hN.out, hL.out, hw⟩

end Go.Proofs.YtfobkbjabenkkaaGreat

/- A code's copy is the call's own. -/
namespace Go.Proofs.YtfobkbjabenkkaaGreat
open Go.RowKit
set_option linter.unusedVariables false
set_option linter.unusedSimpArgs false
attribute [local go_sem] Ext.cell

def CodeCopy (c : GCode) : Prop := c.ins.length ≤ 1048576 ∧ c.pats.length ≤ 1048576 ∧ ∀ q ∈ c.pats, PatSmall q
def CopyPost (c : GCode) (w : World) (e : Ending) (w' : World) : Prop := ∃ r' bs, e = .returned (.agg r'.toArray) ∧ GCode.O bs w' r' c ∧ bs.Nodup ∧ (∀ b ∈ bs, w.heap.size ≤ b) ∧ Below w.heap.size w w'

theorem code_joined {c : GCode} {w W : World} {u0 u1 : Value} {p0 p1 : List Nat} {lo : Nat} (hlo : w.heap.size ≤ lo) (s0 : SlO 57 4 GIns.O p0 W u0 c.ins) (s1 : SlO 55 1 GPat.O p1 W u1 c.pats) (n0 : p0.Nodup) (n1 : p1.Nodup)
    (f0 : ∀ b ∈ p0, lo ≤ b) (f1 : ∀ b ∈ p1, lo ≤ b) (hd : ∀ b ∈ p0, b ∉ p1) (hb : Below w.heap.size w W) : CopyPost c w (.returned (.agg #[u0, u1])) W :=
  ⟨[u0, u1], p0 ++ p1, rfl, ⟨u0, p0, u1, p1, rfl, rfl, trivial, s0, s1⟩, List.nodup_append.2 ⟨n0, n1, fun a ha b hb e => hd a ha (e ▸ hb)⟩, fun b hb => by
    rcases List.mem_append.1 hb with h | h
    · exact Nat.le_trans hlo (f0 b h)
    · exact Nat.le_trans hlo (f1 b h), hb⟩

theorem set2_box {W : World} {g lo : Nat} {v0 v1 : Value} (u0 u1 : Value) (e0 : W.cell? ⟨g, 0, none⟩ = some v0) (e1 : W.cell? ⟨g, 1, none⟩ = some v1) (hg : lo ≤ g) :
    ∃ W2, W2 = (W.setCell ⟨g, 0, none⟩ u0).setCell ⟨g, 1, none⟩ u1 ∧ W2.cell? ⟨g, 0, none⟩ = some u0 ∧ W2.cell? ⟨g, 1, none⟩ = some u1 ∧ Kept (· = g) W W2 ∧ Below lo W W2 :=
  ⟨_, rfl, by rw [cell_setCell_ne _ _ _ _ _ (by decide)]; exact cell_setCell_eq _ _ _ _ e0, cell_setCell_eq _ _ _ _ (by rw [cell_setCell_ne _ _ _ _ _ (by decide)]; exact e1), ((Kept.refl (· = g) W).set (p := ⟨g, 0, none⟩) rfl u0).set (p := ⟨g, 1, none⟩) rfl u1, by go_grown⟩

set_option maxRecDepth 100000 in
set_option maxHeartbeats 8000000 in
theorem copyCode_o (c : GCode) (hS : CodeCopy c) (r : List Value) (lo : Nat) (w : World) (hr : GCode.R lo w r c) :
    Calls Tryz.prog 47 #[.agg r.toArray] w (CopyPost c w) := by
  obtain ⟨u0, u1, rfl, _, h0, h1⟩ := hr
  obtain ⟨ia, ic, rfl⟩ := h0.form
  obtain ⟨pa, pc, rfl⟩ := h1.form
  obtain ⟨is, qs⟩ := c
  obtain ⟨hS0, hS1, hS2⟩ := hS
  dsimp only at *
  have c0 := fun W (hW : Below w.heap.size w W) => cloneIns_o is _ lo hS0 W (h0.below GIns.good hW)
  have c1 := fun W (hW : Below w.heap.size w W) => copyPats_o qs hS1 hS2 _ lo W (h1.below GPat.good hW)
  obtain ⟨n, hn⟩ : ∃ n, n = is.length := ⟨_, rfl⟩
  obtain ⟨m, hm⟩ : ∃ m, m = qs.length := ⟨_, rfl⟩
  rw [← hn] at c0 ⊢
  rw [← hm] at c1 ⊢
  clear h0 h1 hS0 hS1 hS2
  replace hn := Lib.hid hn; replace hm := Lib.hid hm; replace c0 := Lib.hid c0; replace c1 := Lib.hid c1
  show Calls Tryz.prog 47 #[.agg #[.slice ia n ic, .slice pa m pc]] w _
  go_enter Tryz.func47, Tryz.ntmps47
  go_upto_region 1 with fail
  have C : RowAt (w.alloc (.cells #[.slice ia n ic, .slice pa m pc] 30)) (w.heap.size) 0 [.slice ia n ic, .slice pa m pc] := RowAt.box w #[.slice ia n ic, .slice pa m pc] 30
  have C := C.below (show Below (w.alloc (.cells #[.slice ia n ic, .slice pa m pc] 30)).heap.size (w.alloc (.cells #[.slice ia n ic, .slice pa m pc] 30)) ((w.alloc (.cells #[.slice ia n ic, .slice pa m pc] 30)).alloc (.cells #[.slice none 0 0, .slice none 0 0] 30)) by go_grown)
  have E : RowAt ((w.alloc (.cells #[.slice ia n ic, .slice pa m pc] 30)).alloc (.cells #[.slice none 0 0, .slice none 0 0] 30)) (w.heap.size + 1) 0 [.slice none 0 0, .slice none 0 0] := by have h := RowAt.box (w.alloc (.cells #[.slice ia n ic, .slice pa m pc] 30)) #[.slice none 0 0, .slice none 0 0] 30; simp only [World.size_alloc] at h; exact h
  have EW : Wr ((w.alloc (.cells #[.slice ia n ic, .slice pa m pc] 30)).alloc (.cells #[.slice none 0 0, .slice none 0 0] 30)) (w.heap.size + 1) 0 2 := by have h := Wr.box (w.alloc (.cells #[.slice ia n ic, .slice pa m pc] 30)) #[.slice none 0 0, .slice none 0 0] 30; simp only [World.size_alloc] at h; exact h
  have hw : Below w.heap.size w ((w.alloc (.cells #[.slice ia n ic, .slice pa m pc] 30)).alloc (.cells #[.slice none 0 0, .slice none 0 0] 30)) := by go_grown
  generalize ((w.alloc (.cells #[.slice ia n ic, .slice pa m pc] 30)).alloc (.cells #[.slice none 0 0, .slice none 0 0] 30)) = w0 at *
  have hz0 := hw.size
  obtain ⟨c_0, c_1⟩ := C.box2; have hsC := World.block_lt_of_cell? _ _ c_0; dsimp only at hsC; have ef_0 := EW.frz 0 (by omega); have ef_1 := EW.frz 1 (by omega); obtain ⟨e_0, e_1⟩ := E.box2; have hsE := World.block_lt_of_cell? _ _ e_0; dsimp only at hsE
  have hsE0 := hsE
  go_region_held3 (fun w' => w'.cell? ⟨w.heap.size, 0, none⟩ = some (.slice ia n ic) ∧ w'.cell? ⟨w.heap.size, 1, none⟩ = some (.slice pa m pc)) (first | exact ⟨c_0, c_1⟩ | go_keep)
    (first
      | (go_at_call 78; (with_reducible refine (c0.out _ (by first | exact hw | exact hw.trans (by go_grown))).mono ?_); rintro e wI ⟨v0, rfl, OI, hbI⟩; obtain ⟨a0, k0, rfl⟩ := OI.form; (first | (have hb := (show Below w0.heap.size w0 w0.drew by go_grown).trans hbI) | (have hb := hbI)); have hw := hw.trans (hb.mono hw.size); have C := C.below hb; obtain ⟨c_0, c_1⟩ := C.box2; have hsC := World.block_lt_of_cell? _ _ c_0; dsimp only at hsC; have EW := EW.below hb; have ef_0 := EW.frz 0 (by omega); have ef_1 := EW.frz 1 (by omega); have E := E.below hb; obtain ⟨e_0, e_1⟩ := E.box2; have hsE := World.block_lt_of_cell? _ _ e_0; dsimp only at hsE; clear hb)
      | (go_at_call 79; (with_reducible refine (c1.out _ (by first | exact hw | exact hw.trans (by go_grown))).mono ?_); rintro e wP ⟨v1, bs1, rfl, SP, nP, fP, hbP⟩; obtain ⟨a1, k1, rfl⟩ := SP.form; (first | (have hb := (show Below w0.heap.size w0 w0.drew by go_grown).trans hbP) | (have hb := hbP)); have hw := hw.trans (hb.mono hw.size); have C := C.below hb; obtain ⟨c_0, c_1⟩ := C.box2; have hsC := World.block_lt_of_cell? _ _ c_0; dsimp only at hsC; have EW := EW.below hb; have ef_0 := EW.frz 0 (by omega); have ef_1 := EW.frz 1 (by omega); have E := E.below hb; obtain ⟨e_0, e_1⟩ := E.box2; have hsE := World.block_lt_of_cell? _ _ e_0; dsimp only at hsE; clear hb))
  all_goals trace_state
  · obtain ⟨bs0, SI, nI, fI⟩ := OI.slO flatIns
    have hI := SI.lt GIns.ok
    have SI := SI.below GIns.ok hbP
    obtain ⟨w9, hw9, g_0, g_1, k9, b9⟩ := set2_box (lo := w.heap.size) (.slice a0 is.length k0) (.slice a1 qs.length k1) e_0 e_1 (by omega)
    rw [← hw9]
    clear hw9 e_0 e_1 ef_0 ef_1 c_0 c_1
    have hw9 : Below w.heap.size w w9 := hw.trans b9
    have SI := SI.kept GIns.ok k9 (fun b hb e => by have := fI b hb; simp at this; omega)
    have SP := SP.kept GPat.ok k9 (fun b hb e => by have := fP b hb; have := hbI.size; simp at this; omega)
    replace SI := Lib.hid SI; replace SP := Lib.hid SP; replace nI := Lib.hid nI; replace nP := Lib.hid nP; replace fI := Lib.hid fI; replace fP := Lib.hid fP; replace hI := Lib.hid hI
    have hzI := hbI.size
    go_wp2_with fail
    refine bodyPost_ret (v := .agg #[.slice a0 is.length k0, .slice a1 qs.length k1]) (by simp [results, Tryz.results47, go_sem, g_0, g_1]) rfl ?_
    exact code_joined (lo := w0.heap.size) (by omega) SI.out SP.out nI.out nP.out (fun b hb => by have := fI.out b hb; simpa using this) (fun b hb => by have := fP.out b hb; simp at hzI; omega) (fun b hb hb2 => by have := hI.out b hb; have := fP.out b hb2; omega) hw9
end Go.Proofs.YtfobkbjabenkkaaGreat

/- What an index search hands back. -/
namespace Go.Proofs.YtfobkbjabenkkaaGreat
open Go.RowKit

def IdxPost {α : Type} (p : α → Bool) (xs : List α) (w : World) (e : Ending) (w' : World) : Prop :=
  ∃ n : Int, e = .returned (.int .i64 n) ∧ decide (0 ≤ n) = xs.any p ∧ Below w.heap.size w w'

end Go.Proofs.YtfobkbjabenkkaaGreat

/- Ranges of numbers: within, Wrap. -/
namespace Go.Proofs.YtfobkbjabenkkaaGreat
open Go.RowKit
set_option linter.unusedVariables false
set_option linter.unusedSimpArgs false
attribute [local go_sem] Ext.cell

theorem toList_empty : ByteArray.empty.toList = [] := by rw [ByteArray.toList_eq]; rfl
theorem isEmpty_iff (s : ByteArray) : s.toList.isEmpty = true ↔ s = ByteArray.empty := by
  rw [List.isEmpty_iff]
  constructor
  · intro h
    exact (toList_eq s ByteArray.empty).1 (by rw [h, toList_empty])
  · rintro rfl; exact toList_empty

/-- 63 bits. -/
def wrap63 (n : Int) : Int := (n + 4611686018427387904) % 9223372036854775808 - 4611686018427387904
theorem wrap63_eq (n : Int) : wrap63 n = n ↔ -4611686018427387904 ≤ n ∧ n ≤ 4611686018427387903 := by unfold wrap63; omega

set_option maxHeartbeats 400000 in
theorem within_c (n lo hi : Int) (w : World) :
    Calls Tryz.prog 40 #[.int .i64 n, .int .i64 lo, .int .i64 hi] w fun e w' => e = .returned (.bool (decide (lo ≤ n ∧ n ≤ hi))) ∧ w = w' := by
  go_enter Tryz.func40, Tryz.ntmps40
  go_wp2
  all_goals (go_returns; refine ⟨?_, rfl⟩; simp_all)
  all_goals omega

set_option maxHeartbeats 400000 in
theorem Wrap_c (n : Int) (h : I64 n) (w : World) :
    Calls Tryz.prog 59 #[.int .i64 n] w fun e w' => e = .returned (.int .i64 (wrap63 n)) ∧ w = w' := by
  obtain ⟨h0, h1⟩ := h
  go_enter Tryz.func59, Tryz.ntmps59
  go_wp2
  go_returns
  refine ⟨?_, rfl⟩
  show Ending.returned (Value.int .i64 (wrap64 (n * 2) / 2)) = _
  congr 2
  unfold wrap64 wrap63
  omega

end Go.Proofs.YtfobkbjabenkkaaGreat
