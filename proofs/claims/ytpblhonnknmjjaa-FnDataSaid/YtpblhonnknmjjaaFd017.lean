/- Parts of the proof, merged: DL2, DL3. -/
import Derived.Test.YtpblhonnknmjjaaFd016
/- The reference's l21Data: a value drawn, one of its cells changed now and then. -/
namespace Go.Proofs.Ytpblhonnknmjjaa
open Go.RowKit
set_option linter.unusedVariables false
set_option linter.unusedSimpArgs false
attribute [local go_sem] Ext.cell

theorem rows_set1 {α : Type} {R : Reading α} {sz : Nat} {f : α → List Value} {wf : α → Prop} (F : Flat R sz f wf) : ∀ {ps : List α} {i j : Nat} {x y : α} {u : Value}, ps[i]? = some x → j < sz → f y = (f x).set j u → rowsOf f (ps.set i y) = (rowsOf f ps).set (i * sz + j) u
  | [], i, j, x, y, u, h, _, _ => by simp at h
  | p :: ps, 0, j, x, y, u, h, hj, hy => by
    obtain rfl : p = x := by simpa using h
    have e1 : ∀ z, rowsOf f (z :: ps) = f z ++ rowsOf f ps := fun z => by unfold rowsOf; simp
    rw [List.set_cons_zero, e1, e1, hy, Nat.zero_mul, Nat.zero_add, List.set_append_left _ _ (by rw [F.len]; exact hj)]
  | p :: ps, i + 1, j, x, y, u, h, hj, hy => by
    have ih := rows_set1 F (ps := ps) (i := i) (by simpa using h) hj hy
    have e1 : ∀ zs, rowsOf f (p :: zs) = f p ++ rowsOf f zs := fun zs => by unfold rowsOf; simp
    rw [List.set_cons_succ, e1, e1, ih, List.set_append_right _ _ (by rw [F.len, Nat.succ_mul]; omega), F.len, show (i + 1) * sz + j - sz = i * sz + j by rw [Nat.succ_mul]; omega]
theorem set_split {α : Type} {l : List α} {k : Nat} {u : α} (h : k < l.length) : l.take k ++ [u] ++ l.drop (k + 1) = l.set k u := by
  rw [List.set_eq_take_append_cons_drop, if_pos h]; simp
theorem OwnD.put1 {A : Nat → Prop} {T : TypeId} {lo : Nat} {w : World} {g n c i j : Nat} {ps : List DRow} {x y : DRow} {u : Value} (h : OwnD A T lo w (.slice (some ⟨g, 0, none⟩) n c) ps) (hn : n = ps.length) (hx : ps[i]? = some x) (hj : j < 4) (hy : drow y = (drow x).set j u) (hw : dwf y) (hk : y.1.kids = x.1.kids) (hk2 : y.2 = x.2) :
    OwnD A T lo (w.setCell ⟨g, i * 4 + j, none⟩ u) (.slice (some ⟨g, 0, none⟩) n c) (ps.set i y) := by
  subst hn
  have hi := (List.getElem?_eq_some_iff.1 hx).1
  have k1 : Kept (· = g) w (w.setCell ⟨g, i * 4 + j, none⟩ u) := Kept.set (S := (· = g)) (p := ⟨g, i * 4 + j, none⟩) (Kept.refl _ _) rfl _
  have hl : (rowsOf drow ps).length = ps.length * 4 := flatD.length ps
  refine ⟨⟨?_, fun p hp => ?_⟩, ?_, h.out⟩
  · rw [List.length_set, rows_set1 flatD hx hj hy]
    have := own_store_cells (off := i * 4 + j) (r := [u]) h.own.1 (by simp; omega)
    rw [List.length_singleton, set_split (by omega)] at this
    exact this
  · rcases List.mem_or_eq_of_mem_set hp with h1 | rfl
    · exact h.own.2 p h1
    · exact hw
  · have e : kidsV y = kidsV x := by unfold kidsV; rw [hk, hk2]
    have h2 := h.kids.kept k1 (fun q hq e => hq.1 (by rw [e]; rfl)) (by simp [World.setCell])
    refine h2.set ?_
    rw [e, hk]
    exact h2 x (List.mem_of_getElem? hx)
theorem OwnD.cellAt {A : Nat → Prop} {T : TypeId} {lo : Nat} {w : World} {g n c i : Nat} {ps : List DRow} (h : OwnD A T lo w (.slice (some ⟨g, 0, none⟩) n c) ps) (hi : i < ps.length) : ∃ x0 x1 x2 x3, w.cell? ⟨g, i * 4, none⟩ = some x0 ∧ w.cell? ⟨g, i * 4 + 1, none⟩ = some x1 ∧ w.cell? ⟨g, i * 4 + 2, none⟩ = some x2 ∧ w.cell? ⟨g, i * 4 + 3, none⟩ = some x3 ∧
    w.frozen? ⟨g, i * 4, none⟩ = false ∧ w.frozen? ⟨g, i * 4 + 1, none⟩ = false ∧ w.frozen? ⟨g, i * 4 + 2, none⟩ = false ∧ w.frozen? ⟨g, i * 4 + 3, none⟩ = false := by
  obtain ⟨g', cv, hv, _, _, _, _, _, hW⟩ := own_cells h.own.1 (show 0 < ps.length by omega)
  obtain rfl : g = g' := by injection hv with e1 e2 e3; injection e1 with e1; injection e1
  have hz : ∀ x, x < ps.length * 4 → ∃ c, w.cell? ⟨g, x, none⟩ = some c ∧ w.frozen? ⟨g, x, none⟩ = false := fun x hx => by
    obtain ⟨c, h1, h2⟩ := hW x hx
    rw [Nat.zero_add] at h1 h2
    exact ⟨c, h1, h2⟩
  obtain ⟨a0, b0, c0⟩ := hz (i * 4) (by omega)
  obtain ⟨a1, b1, c1⟩ := hz (i * 4 + 1) (by omega)
  obtain ⟨a2, b2, c2⟩ := hz (i * 4 + 2) (by omega)
  obtain ⟨a3, b3, c3⟩ := hz (i * 4 + 3) (by omega)
  exact ⟨a0, a1, a2, a3, b0, b1, b2, b3, c0, c1, c2, c3⟩

def SmN (x : GDNode) : Prop := x.s.size ≤ 13 ∧ x.kids.length ≤ 2
theorem layK_small {L : Nat → PxT → List GDNode} : ∀ (ks : List PxT) (nx : Nat), (∀ k ∈ ks, ∀ nx, ∀ x ∈ L nx k, SmN x) → ∀ x ∈ (layK L nx ks).2, SmN x
  | [], nx, _, x, hx => by simp [layK] at hx
  | k :: ks, nx, h, x, hx => by
    simp only [layK, List.mem_append] at hx
    rcases hx with h1 | h1
    · exact h k (by simp) _ x h1
    · exact layK_small ks _ (fun c hc => h c (by simp [hc])) x h1
theorem layT_small : ∀ (f at_ : Nat) (t : PxT), SmT f t → ∀ x ∈ layT f at_ t, SmN x
  | 0, _, _, h => absurd h (by simp [SmT])
  | f + 1, at_, t, ⟨h1, h2, h3, h4⟩ => fun x hx => by
    rw [layT] at hx
    rcases List.mem_cons.1 hx with rfl | hx
    · exact ⟨by show t.s.size ≤ 13; omega, by show ((layK (layT f) (at_ + 1) t.kids).1).length ≤ 2; rw [layK_len]; exact h3⟩
    · exact layK_small t.kids _ (fun k hk nx x hx => layT_small f nx k (h4 k hk) x hx) x hx

def DlPost (W0 : World) (b : Nat) (w : World) (e : Ending) (w' : World) : Prop :=
  ∃ (u : Value) (l : List GDNode), e = .returned (.agg #[u]) ∧ Sl GDNode.R 4 w.heap.size w' u l ∧ 1 ≤ l.length ∧ l.length ≤ 200 ∧ (∀ x ∈ l, SmN x) ∧ DF W0 b w w'
theorem DlPost.fin {A : Nat → Prop} {T : TypeId} {W0 w W : World} {b lo n g c : Nat} {ps : List DRow} (D : DF W0 b w W) (hb : b < w.heap.size) (hW : W0.heap.size ≤ w.heap.size) (hlo : w.heap.size < lo) (O : OwnD A T lo W (.slice (some ⟨g, 0, none⟩) n c) ps) (hp : ∀ p ∈ ps, SmN p.1) (h1 : 1 ≤ ps.length) (h2 : ps.length ≤ 200) :
    DlPost W0 b w (.returned (.agg #[.slice (some ⟨g, 0, none⟩) n c])) (W.setCell ⟨w.heap.size, 0, none⟩ (.slice (some ⟨g, 0, none⟩) n c)) := by
  refine ⟨_, ps.map (·.1), rfl, ?_, by simpa using h1, by simpa using h2, fun x hx => ?_, D.put (p := ⟨w.heap.size, 0, none⟩) (Nat.le_refl _) hb hW _⟩
  · have hs := O.sl.mono GDNode.good (show w.heap.size + 1 ≤ lo by omega)
    exact (hs.agree GDNode.good (Agree.setCell (Agree.refl _ _) (p := ⟨w.heap.size, 0, none⟩) (by show w.heap.size < w.heap.size + 1; omega) _)).mono GDNode.good (by omega)
  · obtain ⟨p, hp', rfl⟩ := List.mem_map.1 hx
    exact hp p hp'

set_option maxRecDepth 100000 in
set_option maxHeartbeats 8000000 in
theorem l21Data_c (W0 w : World) (b : Nat) (C : Cur W0 w b) :
    Calls Try.prog 20 #[.pointer (some ⟨b, 0, none⟩)] w (DlPost W0 b w) := by
  have hbl := C.lt
  have hlo := C.lo
  have hW0 := C.below.size
  go_enter Try.func20, Try.ntmps20
  go_upto_region 1 with fail
  have E : RowAt (w.alloc (.cells #[.slice none 0 0] 25)) (w.heap.size) 0 [.slice none 0 0] := RowAt.box w #[.slice none 0 0] 25
  have EW : Wr (w.alloc (.cells #[.slice none 0 0] 25)) (w.heap.size) 0 1 := Wr.box w #[.slice none 0 0] 25
  have hw : Below w.heap.size w (w.alloc (.cells #[.slice none 0 0] 25)) := by go_grown
  generalize (w.alloc (.cells #[.slice none 0 0] 25)) = w0 at *
  have D0 : DF W0 b w w0 := (DF.refl C).after hw
  have hs0 := hw.size
  have hsE := World.block_lt_of_cell? _ _ E.box1; dsimp only at hsE
  replace C := Lib.hid C
  go_upto_region 2 with (first
    | (go_at_call 37; (with_reducible refine (l07Data_c W0 b 4 0 _ (by omega) (by omega) D0.cur).mono ?_); rintro e w1 ⟨t, ta, tc, rfl, PT, ST, ZT, D1⟩; have hs1 := D1.size)
    | (go_at_call 33; (refine (l07Lay_c 10 t (fun q => (w0.heap.size ≤ q ∧ q < w1.heap.size) ∨ q = b) (.slice none 0 0) [.int .i64 t.kind, .int .i64 t.n, .string t.s, .slice ta t.kids.length tc] [] w1.heap.size w1 (PT.to (fun _ _ _ => rfl) (fun q h1 h2 => .inl ⟨h1, h2⟩)) (OwnD.nil _ _ _ _) (Nat.le_refl _) (fun q hq => by omega) (by have h := ZT; simp only [show 2 * (4 + 1) = 10 from rfl] at h; simp; omega)).mono ?_); rintro e w2 ⟨v, ps, rfl, O2, hps, hb2, K2⟩; have hn1 : 1 ≤ ps.length := (by have h := congrArg List.length hps; simp only [List.length_map, List.map_nil, List.nil_append] at h; rw [h]; show 1 ≤ (_ :: _ : List GDNode).length; simp); have hn2 : ps.length ≤ 200 := (by have h := congrArg List.length hps; simp only [List.length_map, List.map_nil, List.nil_append] at h; have h2 := layT_le 10 ([] : List DRow).length t; have h3 := ZT; simp only [show 2 * (4 + 1) = 10 from rfl] at h3; omega); have hsm : ∀ p ∈ ps, SmN p.1 := (fun p hp => layT_small 10 _ t ST p.1 (by have : p.1 ∈ ps.map (·.1) := List.mem_map.2 ⟨p, hp, rfl⟩; rw [hps] at this; simpa using this)); obtain ⟨gv, cv, rfl, hg1, hg2, -⟩ := own_cells O2.own.1 (show 0 < ps.length by omega); clear hps))
  have D2 : DF W0 b w0 w2 := ⟨(D1.cur.kept K2 (fun h => h (.inr rfl)) (D1.cur.below.trans (hb2.mono (by omega)))), fun k h1 h2 => (hb2.block k (by omega)).trans (D1.kept k h1 h2), by have := hb2.size; omega⟩
  obtain ⟨n, hn⟩ : ∃ n, n = ps.length := ⟨_, rfl⟩
  rw [← hn] at hn1 hn2 O2 ⊢
  replace hn := Lib.hid hn
  obtain ⟨w3, hW3⟩ : ∃ W, W = w2.alloc (.cells #[.slice (some ⟨gv, 0, none⟩) n cv] 25) := ⟨_, rfl⟩
  rw [← hW3]
  have hb3 : Below w2.heap.size w2 w3 := by rw [hW3]; go_grown
  have B3 : RowAt w3 w2.heap.size 0 [.slice (some ⟨gv, 0, none⟩) n cv] := by rw [hW3]; exact RowAt.box w2 #[_] _
  have D3 := D2.after hb3
  have O3 := (O2.toA (A' := fun q => q = b) fun g _ h => .inr h).below hb3
  have hz3 : w2.heap.size < w3.heap.size := World.block_lt_of_cell? _ _ B3.box1
  have hz2 : w1.heap.size ≤ w2.heap.size := hb2.size
  obtain ⟨bD, hbD⟩ : ∃ x, x = w2.heap.size := ⟨_, rfl⟩
  rw [← hbD] at B3 hz3 ⊢
  have hbD2 : w1.heap.size ≤ bD := by omega
  have hgD : gv < bD := by omega
  have hgw : w.heap.size < w1.heap.size := by omega
  clear hW3 hb3 D2 D1 O2 K2 hb2 hbD PT ST ZT
  have b_0 := B3.box1
  go_upto_region 3 with (go_at_call 21; (with_reducible refine (l01Below_c W0 _ b 12 (by omega) D3.cur).mono ?_); rintro e w4 ⟨x, rfl, hx0, hx1, hx2, D4⟩)
  have hs4 := D4.size
  have B4 := B3.kept D4.kept (by omega)
  have O4 := O3.kept D4.kept (fun g _ h => h) hs4
  have D04 := D3.trans D4
  clear D3 D4 O3 B3 b_0
  have b_0 := B4.box1
  go_upto_region 4 with (go_at_call 21; (with_reducible refine (l01Below_c W0 _ b (n : Int) (by omega) D04.cur).mono ?_); rintro e w5 ⟨i, rfl, hi0, hi1, hi2, D5⟩)
  have hs5 := D5.size
  have B5 := B4.kept D5.kept (by omega)
  have O5 := O4.kept D5.kept (fun g _ h => h) hs5
  have D05 := D04.trans D5
  clear D04 D5 O4 B4 b_0
  have b_0 := B5.box1
  obtain ⟨k, rfl⟩ := Int.eq_ofNat_of_zero_le hi0
  have hk : k < n := by have := hi1 (by omega); omega
  clear hi0 hi1 hi2 hx2
  obtain ⟨p, hp⟩ : ∃ p, ps[k]? = some p := ⟨_, List.getElem?_eq_getElem (by have := hn.out; omega)⟩
  have hsp := hsm p (List.mem_of_getElem? hp)
  have hwp : dwf p := O5.own.2 p (List.mem_of_getElem? hp)
  have hbne : ¬ bD = gv := by omega
  have hgne : ¬ gv = bD := by omega
  have hbw : ¬ bD = w.heap.size := by omega
  have hgw2 : ¬ gv = w.heap.size := by omega
  have hend : ∀ W qs, DF W0 b w0 W → OwnD (fun q => q = b) 44 w1.heap.size W (.slice (some ⟨gv, 0, none⟩) n cv) qs → qs.length = n → (∀ p ∈ qs, SmN p.1) → (RowAt W w.heap.size 0 [.slice none 0 0] ∧ Wr W w.heap.size 0 1) ∧ DlPost W0 b w (.returned (.agg #[.slice (some ⟨gv, 0, none⟩) n cv])) (W.setCell ⟨w.heap.size, 0, none⟩ (.slice (some ⟨gv, 0, none⟩) n cv)) := fun W qs D O hl hs =>
    ⟨⟨E.kept D.kept (by omega), EW.kept D.kept (by omega)⟩, DlPost.fin (D0.trans D) hbl hW0 hgw O hs (by omega) (by omega)⟩
  have hcs : ∀ W, OwnD (fun q => q = b) 44 w1.heap.size W (.slice (some ⟨gv, 0, none⟩) n cv) ps → _ := fun W O => O.cellAt (i := k) (by have := hn.out; omega)
  have hput : ∀ W (j : Nat) (y : GDNode) (u : Value), OwnD (fun q => q = b) 44 w1.heap.size W (.slice (some ⟨gv, 0, none⟩) n cv) ps → j < 4 → drow (y, p.2) = (drow p).set j u → y.wf → y.kids = p.1.kids → y.s.size ≤ 13 →
      OwnD (fun q => q = b) 44 w1.heap.size (W.setCell ⟨gv, k * 4 + j, none⟩ u) (.slice (some ⟨gv, 0, none⟩) n cv) (ps.set k (y, p.2)) ∧ (ps.set k (y, p.2)).length = n ∧ ∀ q ∈ ps.set k (y, p.2), SmN q.1 := fun W j y u O hj hy hw hk hs =>
    ⟨O.put1 hn.out hp hj hy hw hk rfl, by rw [List.length_set, hn.out], fun q hq => by
      rcases List.mem_or_eq_of_mem_set hq with h1 | rfl
      · exact hsm q h1
      · exact ⟨hs, by rw [hk]; exact hsp.2⟩⟩
  have hdp : ∀ (W : World) (j : Nat) (u : Value), DF W0 b w0 W → DF W0 b w0 (W.setCell ⟨gv, k * 4 + j, none⟩ u) := fun W j u D => D.put (p := ⟨gv, k * 4 + j, none⟩) (by show w0.heap.size ≤ gv; omega) (by omega) (by omega) u
  replace hend := Lib.hid hend; replace hcs := Lib.hid hcs; replace hput := Lib.hid hput; replace hdp := Lib.hid hdp; replace hp := Lib.hid hp; replace hsm := Lib.hid hsm; replace hsp := Lib.hid hsp; replace hwp := Lib.hid hwp
  clear E EW
  by_cases hx : 3 ≤ x
  · have h0 : (x == 0) = false := by simp; omega
    have h1 : (x == 1) = false := by simp; omega
    have h2 : (x == 2) = false := by simp; omega
    obtain ⟨⟨E5, EW5⟩, F5⟩ := hend.out _ ps D05 O5 hn.out.symm hsm.out
    have e_0 := E5.box1; have ef_0 := EW5.frz 0 (by omega)
    have hsE5 := World.block_lt_of_cell? _ _ e_0; dsimp only at hsE5
    have hsB5 := World.block_lt_of_cell? _ _ b_0; dsimp only at hsB5
    replace F5 := Lib.hid F5
    clear O5
    go_wp2_with fail
    have p_0 := cell_setCell_eq w5 w.heap.size 0 (.slice (some ⟨gv, 0, none⟩) n cv) e_0
    refine bodyPost_ret (v := .agg #[.slice (some ⟨gv, 0, none⟩) n cv]) (by simp [results, Try.results20, go_sem, p_0]) rfl ?_
    exact F5.out
  · have hx3 : x = 0 ∨ x = 1 ∨ x = 2 := by omega
    rcases hx3 with rfl | rfl | rfl
    · go_upto_region 5 with fail
      go_region_held3 (fun w' => w'.cell? ⟨bD, 0, none⟩ = some (.slice (some ⟨gv, 0, none⟩) n cv)) (first | exact b_0 | go_keep)
        ((go_at_call 38; (with_reducible refine (l01Raw_c W0 _ b D05.draws.cur).mono ?_); rintro e w6 ⟨y, rfl, hy, D6⟩; have O6 := OwnD.kept (OwnD.below O5 (show Below w5.heap.size w5 w5.drew by go_grown)) D6.kept (fun g _ h => h) D6.size; have D06 := (D05.draws).trans D6; have B6 := (RowAt.below B5 (show Below w5.heap.size w5 w5.drew by go_grown)).kept D6.kept (by omega); have c_0 := B6.box1; obtain ⟨y0, y1, y2, y3, z0, z1, z2, z3, f0, f1, f2, f3⟩ := hcs.out _ O6; have hs6 := D6.size))
      obtain ⟨O7, hl7, hs7⟩ := hput.out w6 1 ⟨p.1.kind, y, p.1.s, p.1.kids⟩ _ O6 (by omega) rfl ⟨hwp.out.1, hy, hwp.out.2.2⟩ rfl hsp.out.1
      obtain ⟨w7, hW7⟩ : ∃ W, W = w6.setCell ⟨gv, k * 4 + 1, none⟩ (.int .i64 y) := ⟨_, rfl⟩
      have D7 := hdp.out _ 1 (.int .i64 y) D06
      have B7 : RowAt (w6.setCell ⟨gv, k * 4 + 1, none⟩ (.int .i64 y)) bD 0 [.slice (some ⟨gv, 0, none⟩) n cv] := B6.set_other hbne _
      simp only [Nat.add_zero] at O7 D7 B7
      rw [← hW7] at O7 D7 B7 ⊢
      obtain ⟨⟨E7, EW7⟩, F7⟩ := hend.out _ _ D7 O7 hl7 hs7
      have e_0 := E7.box1; have ef_0 := EW7.frz 0 (by omega)
      have g_0 := B7.box1
      have hsE7 := World.block_lt_of_cell? _ _ e_0; dsimp only at hsE7
      have hsB7 := World.block_lt_of_cell? _ _ g_0; dsimp only at hsB7
      replace F7 := Lib.hid F7
      clear O5 O6 O7 hW7 z0 z1 z2 z3 f0 f1 f2 f3 c_0 b_0
      go_wp2_with fail
      have p_0 := cell_setCell_eq w7 w.heap.size 0 (.slice (some ⟨gv, 0, none⟩) n cv) e_0
      refine bodyPost_ret (v := .agg #[.slice (some ⟨gv, 0, none⟩) n cv]) (by simp [results, Try.results20, go_sem, p_0]) rfl ?_
      exact F7.out
    · go_upto_region 7 with fail
      go_region_held3 (fun w' => w'.cell? ⟨bD, 0, none⟩ = some (.slice (some ⟨gv, 0, none⟩) n cv)) (first | exact b_0 | go_keep)
        ((go_at_call 39; (with_reducible refine (l01Text_c W0 _ b D05.draws.cur).mono ?_); rintro e w6 ⟨y, rfl, hy, D6⟩; have O6 := OwnD.kept (OwnD.below O5 (show Below w5.heap.size w5 w5.drew by go_grown)) D6.kept (fun g _ h => h) D6.size; have D06 := (D05.draws).trans D6; have B6 := (RowAt.below B5 (show Below w5.heap.size w5 w5.drew by go_grown)).kept D6.kept (by omega); have c_0 := B6.box1; obtain ⟨y0, y1, y2, y3, z0, z1, z2, z3, f0, f1, f2, f3⟩ := hcs.out _ O6; have hs6 := D6.size))
      obtain ⟨O7, hl7, hs7⟩ := hput.out w6 2 ⟨p.1.kind, p.1.n, y, p.1.kids⟩ _ O6 (by omega) rfl ⟨hwp.out.1, hwp.out.2.1, by show y.size ≤ _; omega⟩ rfl hy
      obtain ⟨w7, hW7⟩ : ∃ W, W = w6.setCell ⟨gv, k * 4 + 2, none⟩ (.string y) := ⟨_, rfl⟩
      have D7 := hdp.out _ 2 (.string y) D06
      have B7 : RowAt (w6.setCell ⟨gv, k * 4 + 2, none⟩ (.string y)) bD 0 [.slice (some ⟨gv, 0, none⟩) n cv] := B6.set_other hbne _
      simp only [Nat.add_zero] at O7 D7 B7
      rw [← hW7] at O7 D7 B7 ⊢
      obtain ⟨⟨E7, EW7⟩, F7⟩ := hend.out _ _ D7 O7 hl7 hs7
      have e_0 := E7.box1; have ef_0 := EW7.frz 0 (by omega)
      have g_0 := B7.box1
      have hsE7 := World.block_lt_of_cell? _ _ e_0; dsimp only at hsE7
      have hsB7 := World.block_lt_of_cell? _ _ g_0; dsimp only at hsB7
      replace F7 := Lib.hid F7
      clear O5 O6 O7 hW7 z0 z1 z2 z3 f0 f1 f2 f3 c_0 b_0
      go_wp2_with fail
      have p_0 := cell_setCell_eq w7 w.heap.size 0 (.slice (some ⟨gv, 0, none⟩) n cv) e_0
      refine bodyPost_ret (v := .agg #[.slice (some ⟨gv, 0, none⟩) n cv]) (by simp [results, Try.results20, go_sem, p_0]) rfl ?_
      exact F7.out
    · go_upto_region 9 with fail
      go_region_held3 (fun w' => w'.cell? ⟨bD, 0, none⟩ = some (.slice (some ⟨gv, 0, none⟩) n cv)) (first | exact b_0 | go_keep)
        ((go_at_call 21; (with_reducible refine (l01Below_c W0 _ b 7 (by omega) D05.draws.cur).mono ?_); rintro e w6 ⟨y, rfl, hy0, hy1, hy2, D6⟩; have O6 := OwnD.kept (OwnD.below O5 (show Below w5.heap.size w5 w5.drew by go_grown)) D6.kept (fun g _ h => h) D6.size; have D06 := (D05.draws).trans D6; have B6 := (RowAt.below B5 (show Below w5.heap.size w5 w5.drew by go_grown)).kept D6.kept (by omega); have c_0 := B6.box1; obtain ⟨y0, y1, y2, y3, z0, z1, z2, z3, f0, f1, f2, f3⟩ := hcs.out _ O6; have hs6 := D6.size))
      obtain ⟨O7, hl7, hs7⟩ := hput.out w6 0 ⟨y, p.1.n, p.1.s, p.1.kids⟩ _ O6 (by omega) rfl ⟨⟨by show _ ≤ y; omega, by show y ≤ _; omega⟩, hwp.out.2.1, hwp.out.2.2⟩ rfl hsp.out.1
      obtain ⟨w7, hW7⟩ : ∃ W, W = w6.setCell ⟨gv, k * 4, none⟩ (.int .i64 y) := ⟨_, rfl⟩
      have D7 := hdp.out _ 0 (.int .i64 y) D06
      have B7 : RowAt (w6.setCell ⟨gv, k * 4, none⟩ (.int .i64 y)) bD 0 [.slice (some ⟨gv, 0, none⟩) n cv] := B6.set_other hbne _
      simp only [Nat.add_zero] at O7 D7 B7
      rw [← hW7] at O7 D7 B7 ⊢
      obtain ⟨⟨E7, EW7⟩, F7⟩ := hend.out _ _ D7 O7 hl7 hs7
      have e_0 := E7.box1; have ef_0 := EW7.frz 0 (by omega)
      have g_0 := B7.box1
      have hsE7 := World.block_lt_of_cell? _ _ e_0; dsimp only at hsE7
      have hsB7 := World.block_lt_of_cell? _ _ g_0; dsimp only at hsB7
      replace F7 := Lib.hid F7
      clear O5 O6 O7 hW7 z0 z1 z2 z3 f0 f1 f2 f3 c_0 b_0
      go_wp2_with fail
      have p_0 := cell_setCell_eq w7 w.heap.size 0 (.slice (some ⟨gv, 0, none⟩) n cv) e_0
      refine bodyPost_ret (v := .agg #[.slice (some ⟨gv, 0, none⟩) n cv]) (by simp [results, Try.results20, go_sem, p_0]) rfl ?_
      exact F7.out
end Go.Proofs.Ytpblhonnknmjjaa

/- DrawDataLess. -/
namespace Go.Proofs.Ytpblhonnknmjjaa
open Go.RowKit
set_option linter.unusedVariables false
set_option linter.unusedSimpArgs false
attribute [local go_sem] Ext.cell

def SmD (l : List GDNode) : Prop := 1 ≤ l.length ∧ l.length ≤ 200 ∧ ∀ x ∈ l, SmN x
theorem SmD.bulk {l : List GDNode} (h : SmD l) : (GData.mk l).bulk ≤ 1048576 := by
  have h1 : ∀ l : List GDNode, (∀ x ∈ l, SmN x) → bulkS GDNode.bulk l ≤ (l.length : Int) * 20 := by
    intro l
    induction l with
    | nil => intro _; simp [bulkS]
    | cons c l ih =>
      intro hl
      have h2 := ih (fun c hc => hl c (List.mem_cons_of_mem _ hc))
      obtain ⟨h3, h4⟩ := hl c (by simp)
      have h5 : GDNode.bulk c ≤ 19 := by
        unfold GDNode.bulk
        omega
      simp only [bulkS, List.length_cons, List.map_cons, List.sum_cons] at h2 ⊢
      omega
  have h2 := h1 l h.2.2
  have := h.2.1
  show bulkS GDNode.bulk l ≤ _
  omega
def LessPost (w : World) (e : Ending) (w' : World) : Prop :=
  ∃ (u v : Value) (la lb : List GDNode), e = .returned (.tuple #[.agg #[u], .agg #[v]]) ∧ Sl GDNode.R 4 w.heap.size w' u la ∧ Sl GDNode.R 4 w.heap.size w' v lb ∧ SmD la ∧ SmD lb ∧ Below w.heap.size w w'
theorem dsl_kept {B b : Nat} {w w' : World} {u : Value} {l : List GDNode} (h : Sl GDNode.R 4 B w u l) (hk : Kept (· = b) w w') (hb : b < B) : Sl GDNode.R 4 B w' u l :=
  h.agree GDNode.good fun k h1 h2 => hk k h2 (by omega)
set_option maxRecDepth 100000 in
set_option maxHeartbeats 16000000 in
theorem drawDataLess_c (w : World) (u : Value) (bs : List UInt8) (hu : Sl ByteR 1 0 w u bs) (hlen : bs.length ≤ 1048576) :
    Calls Try.prog 6 #[u] w (LessPost w) := by
  have Hu := hu
  obtain ⟨ua, uc, rfl⟩ := hu.form
  clear hu
  go_enter Try.func6, Try.ntmps6
  go_upto_region 1 with fail
  have E : RowAt (w.alloc (.cells #[.slice none 0 0] 25)) (w.heap.size) 0 [.slice none 0 0] := RowAt.box w #[.slice none 0 0] 25
  have EW : Wr (w.alloc (.cells #[.slice none 0 0] 25)) (w.heap.size) 0 1 := Wr.box w #[.slice none 0 0] 25
  have E := E.below (show Below (w.alloc (.cells #[.slice none 0 0] 25)).heap.size (w.alloc (.cells #[.slice none 0 0] 25)) ((w.alloc (.cells #[.slice none 0 0] 25)).alloc (.cells #[.slice none 0 0] 25)) by go_grown)
  have EW := EW.below (show Below (w.alloc (.cells #[.slice none 0 0] 25)).heap.size (w.alloc (.cells #[.slice none 0 0] 25)) ((w.alloc (.cells #[.slice none 0 0] 25)).alloc (.cells #[.slice none 0 0] 25)) by go_grown)
  have F : RowAt ((w.alloc (.cells #[.slice none 0 0] 25)).alloc (.cells #[.slice none 0 0] 25)) (w.heap.size + 1) 0 [.slice none 0 0] := by have h := RowAt.box (w.alloc (.cells #[.slice none 0 0] 25)) #[.slice none 0 0] 25; simp only [World.size_alloc] at h; exact h
  have FW : Wr ((w.alloc (.cells #[.slice none 0 0] 25)).alloc (.cells #[.slice none 0 0] 25)) (w.heap.size + 1) 0 1 := by have h := Wr.box (w.alloc (.cells #[.slice none 0 0] 25)) #[.slice none 0 0] 25; simp only [World.size_alloc] at h; exact h
  have hw : Below w.heap.size w ((w.alloc (.cells #[.slice none 0 0] 25)).alloc (.cells #[.slice none 0 0] 25)) := by go_grown
  generalize ((w.alloc (.cells #[.slice none 0 0] 25)).alloc (.cells #[.slice none 0 0] 25)) = w0 at *
  have hs0 := hw.size
  have hsE := World.block_lt_of_cell? _ _ E.box1; dsimp only at hsE
  have hsF := World.block_lt_of_cell? _ _ F.box1; dsimp only at hsF
  replace Hu := Lib.hid Hu
  go_upto_region 2 with (go_at_call 19; (with_reducible refine (l01New_c w w0 _ bs Hu.out hlen hw).mono ?_); rintro e w1 ⟨b, rfl, hb0, C1, hb1⟩)
  have hbl := C1.lt
  have hz1 := hb1.size
  have K01 : Kept (· = b) w0 w1 := Kept.below hb1
  go_upto_region 3 with (go_at_call 20; (with_reducible refine (l21Data_c w _ b C1).mono ?_); rintro e w2 ⟨va, la, rfl, SA, a1, a2, a3, D2⟩; obtain ⟨xa, ca, rfl⟩ := SA.form)
  obtain ⟨w3, hW3⟩ : ∃ W, W = w2.alloc (.cells #[.slice xa la.length ca] 25) := ⟨_, rfl⟩
  rw [← hW3]
  have hb3 : Below w2.heap.size w2 w3 := by rw [hW3]; go_grown
  have RA : RowAt w3 w2.heap.size 0 [.slice xa la.length ca] := by rw [hW3]; exact RowAt.box w2 #[_] _
  have D3 := D2.after hb3
  have SA3 := SA.below GDNode.good hb3
  have hz2 := D2.size
  have hz3 : w2.heap.size < w3.heap.size := World.block_lt_of_cell? _ _ RA.box1
  obtain ⟨bA, hbA⟩ : ∃ x, x = w2.heap.size := ⟨_, rfl⟩
  rw [← hbA] at RA hz3 ⊢
  have hbA2 : w1.heap.size ≤ bA := by omega
  clear hW3 hb3 D2 SA hbA
  go_upto_region 4 with (go_at_call 20; (with_reducible refine (l21Data_c w _ b D3.cur).mono ?_); rintro e w4 ⟨vb, lb, rfl, SB, b1, b2, b3, D4⟩; obtain ⟨xb, cb, rfl⟩ := SB.form)
  obtain ⟨w5, hW5⟩ : ∃ W, W = w4.alloc (.cells #[.slice xb lb.length cb] 25) := ⟨_, rfl⟩
  rw [← hW5]
  have hb5 : Below w4.heap.size w4 w5 := by rw [hW5]; go_grown
  have RB : RowAt w5 w4.heap.size 0 [.slice xb lb.length cb] := by rw [hW5]; exact RowAt.box w4 #[_] _
  have WB : Wr w5 w4.heap.size 0 1 := by rw [hW5]; exact Wr.box w4 #[_] _
  have D5 := D4.after hb5
  have SB5 := SB.below GDNode.good hb5
  have SA5 := dsl_kept SA3 D5.kept (by omega)
  have RA5 := RA.kept D5.kept (by omega)
  have hz4 := D4.size
  have hz5 : w4.heap.size < w5.heap.size := World.block_lt_of_cell? _ _ RB.box1
  obtain ⟨bB, hbB⟩ : ∃ x, x = w4.heap.size := ⟨_, rfl⟩
  rw [← hbB] at RB WB hz5 ⊢
  have hbB2 : w3.heap.size ≤ bB := by omega
  have D35 := D3.trans D5
  have K35 := D5.kept
  clear hW5 hb5 D4 SB hbB RA D3 D5
  have SB5 : Sl GDNode.R 4 w1.heap.size w5 (.slice xb lb.length cb) lb := SB5.mono GDNode.good (by omega)
  go_upto_if 15 with (go_at_call 21; (with_reducible refine (l01Below_c w _ b 4 (by omega) D35.cur).mono ?_); rintro e w6 ⟨x, rfl, hx0, hx1, hx2, D6⟩)
  have hs6 := D6.size
  have SA6 := dsl_kept SA5 D6.kept (by omega)
  have SB6 := dsl_kept SB5 D6.kept (by omega)
  have RA6 := RA5.kept D6.kept (by omega)
  have RB6 := RB.kept D6.kept (by omega)
  have WB6 := WB.kept D6.kept (by omega)
  have K06 : Kept (· = b) w0 w6 := K01.trans hz1 ((D35.trans D6).kept)
  have E6 := E.kept K06 (by omega); have EW6 := EW.kept K06 (by omega)
  have F6 := F.kept K06 (by omega); have FW6 := FW.kept K06 (by omega)
  have hB6 : Below w.heap.size w w6 := D6.cur.below
  have n6 : ¬ w.heap.size = bA := by omega
  have n7 : ¬ w.heap.size + 1 = bA := by omega
  have n8 : ¬ w.heap.size = bB := by omega
  have n9 : ¬ w.heap.size + 1 = bB := by omega
  have n1 : ¬ bA = bB := by omega
  have n1' : ¬ bB = bA := by omega
  have n2 : ¬ bA = w.heap.size := by omega
  have n3 : ¬ bA = w.heap.size + 1 := by omega
  have n4 : ¬ bB = w.heap.size := by omega
  have n5 : ¬ bB = w.heap.size + 1 := by omega
  have hfin : ∀ (W W' : World) (xx : Option Addr) (cc : Nat) (ll : List GDNode), (W' = ((W.setCell ⟨w.heap.size, 0, none⟩ (.slice xa la.length ca)).setCell ⟨w.heap.size + 1, 0, none⟩ (.slice xx ll.length cc)).drew ∨ W' = ((W.setCell ⟨w.heap.size + 1, 0, none⟩ (.slice xx ll.length cc)).setCell ⟨w.heap.size, 0, none⟩ (.slice xa la.length ca)).drew) →
      Sl GDNode.R 4 w1.heap.size W (.slice xa la.length ca) la → Sl GDNode.R 4 w1.heap.size W (.slice xx ll.length cc) ll → SmD ll → Below w.heap.size w W → RowAt W w.heap.size 0 [.slice none 0 0] → RowAt W (w.heap.size + 1) 0 [.slice none 0 0] →
      LessPost w (.returned (.tuple #[.agg #[.slice xa la.length ca], .agg #[.slice xx ll.length cc]])) W' ∧ W'.cell? ⟨w.heap.size, 0, none⟩ = some (.slice xa la.length ca) ∧ W'.cell? ⟨w.heap.size + 1, 0, none⟩ = some (.slice xx ll.length cc) := fun W W' xx cc ll hW h1 h2 h3 h4 h5 h6 => by
    have ag : Agree w1.heap.size W W' := by
      rcases hW with rfl | rfl
      · exact fun k h1 h2 => Agree.setCell (Agree.setCell (Agree.refl w1.heap.size W) (p := ⟨w.heap.size, 0, none⟩) (by show w.heap.size < _; omega) _) (p := ⟨w.heap.size + 1, 0, none⟩) (by show w.heap.size + 1 < _; omega) _ k h1 h2
      · exact fun k h1 h2 => Agree.setCell (Agree.setCell (Agree.refl w1.heap.size W) (p := ⟨w.heap.size + 1, 0, none⟩) (by show w.heap.size + 1 < _; omega) _) (p := ⟨w.heap.size, 0, none⟩) (by show w.heap.size < _; omega) _ k h1 h2
    have bl : Below w.heap.size w W' := by
      rcases hW with rfl | rfl
      · exact ((h4.setCell (p := ⟨w.heap.size, 0, none⟩) (Nat.le_refl _) _).setCell (p := ⟨w.heap.size + 1, 0, none⟩) (by show w.heap.size ≤ w.heap.size + 1; omega) _).drew
      · exact ((h4.setCell (p := ⟨w.heap.size + 1, 0, none⟩) (by show w.heap.size ≤ w.heap.size + 1; omega) _).setCell (p := ⟨w.heap.size, 0, none⟩) (Nat.le_refl _) _).drew
    refine ⟨⟨_, _, la, ll, rfl, (h1.agree GDNode.good ag).mono GDNode.good (by omega), (h2.agree GDNode.good ag).mono GDNode.good (by omega), ⟨a1, a2, a3⟩, h3, bl⟩, ?_, ?_⟩
    · rcases hW with rfl | rfl
      · exact ((h5.putAt (j := 0) (by simp) _).set_other (by omega) _).box1
      · exact ((h5.set_other (by omega) _).putAt (j := 0) (by simp) _).box1
    · rcases hW with rfl | rfl
      · exact ((h6.set_other (by omega) _).putAt (j := 0) (by simp) _).box1
      · exact ((h6.putAt (j := 0) (by simp) _).set_other (by omega) _).box1
  replace hfin := Lib.hid hfin
  clear E EW F FW RA5 RB WB SA5 SB5
  by_cases hx : x = 0
  · subst hx
    obtain ⟨w7, hW7⟩ : ∃ W, W = w6.setCell ⟨bB, 0, none⟩ (.slice xa la.length ca) := ⟨_, rfl⟩
    have RA7 : RowAt w7 bA 0 [.slice xa la.length ca] := by rw [hW7]; exact RA6.set_other n1 _
    have RB7 : RowAt w7 bB 0 [.slice xa la.length ca] := by rw [hW7]; exact RB6.putAt (j := 0) (by simp) _
    have k7 : Kept (· = bB) w6 w7 := by rw [hW7]; exact Kept.set (S := (· = bB)) (p := ⟨bB, 0, none⟩) (Kept.refl _ _) rfl _
    have E7 := E6.kept k7 (by omega); have EW7 := EW6.kept k7 (by omega)
    have F7 := F6.kept k7 (by omega); have FW7 := FW6.kept k7 (by omega)
    have a_0 := RA6.box1; have b_0 := RB6.box1; have bf_0 := WB6.frz 0 (by omega)
    have hsA6 := World.block_lt_of_cell? _ _ a_0; dsimp only at hsA6
    have hsB6 := World.block_lt_of_cell? _ _ b_0; dsimp only at hsB6
    go_upto_region 6 with fail
    rw [← hW7]
    have SA7 : Sl GDNode.R 4 w1.heap.size w7 (.slice xa la.length ca) la := SA3.agree GDNode.good fun k h1 h2 => (k7 k (by omega) (by omega)).trans ((D6.kept k (by omega) (by omega)).trans (K35 k h2 (by omega)))
    have hB7 : Below w.heap.size w w7 := by rw [hW7]; exact hB6.setCell (p := ⟨bB, 0, none⟩) (by show w.heap.size ≤ bB; omega) _
    clear hW7 a_0 b_0 bf_0 hsA6 hsB6
    have a_0 := RA7.box1; have b_0 := RB7.box1
    have hsA7 := World.block_lt_of_cell? _ _ a_0; dsimp only at hsA7
    have hsB7 := World.block_lt_of_cell? _ _ b_0; dsimp only at hsB7
    have e_0 := E7.box1; have ef_0 := EW7.frz 0 (by omega)
    have f_0 := F7.box1; have ff_0 := FW7.frz 0 (by omega)
    have hsE7 := World.block_lt_of_cell? _ _ e_0; dsimp only at hsE7
    have hsF7 := World.block_lt_of_cell? _ _ f_0; dsimp only at hsF7
    go_region_held3 (fun w' => w'.cell? ⟨bA, 0, none⟩ = some (.slice xa la.length ca) ∧ w'.cell? ⟨bB, 0, none⟩ = some (.slice xa la.length ca)) (first | exact ⟨a_0, b_0⟩ | go_keep) (fail)
    all_goals go_wp2_with fail
    all_goals
      first
        | (obtain ⟨w8, hW8⟩ : ∃ W, W = ((w7.setCell ⟨w.heap.size, 0, none⟩ (.slice xa la.length ca)).setCell ⟨w.heap.size + 1, 0, none⟩ (.slice xa la.length ca)).drew := ⟨_, rfl⟩
           rw [← hW8]
           obtain ⟨F8, e_8, f_8⟩ := hfin.out w7 w8 xa ca la (.inl hW8) SA7 SA7 ⟨a1, a2, a3⟩ hB7 E7 F7)
        | (obtain ⟨w8, hW8⟩ : ∃ W, W = ((w7.setCell ⟨w.heap.size + 1, 0, none⟩ (.slice xa la.length ca)).setCell ⟨w.heap.size, 0, none⟩ (.slice xa la.length ca)).drew := ⟨_, rfl⟩
           rw [← hW8]
           obtain ⟨F8, e_8, f_8⟩ := hfin.out w7 w8 xa ca la (.inr hW8) SA7 SA7 ⟨a1, a2, a3⟩ hB7 E7 F7)
      clear hW8
      refine bodyPost_ret (v := .tuple #[.agg #[.slice xa la.length ca], .agg #[.slice xa la.length ca]]) (by simp [results, Try.results6, go_sem, e_8, f_8]) rfl ?_
      exact F8
  · have hd : (x == 0) = false := by simpa using hx
    have a_0 := RA6.box1; have b_0 := RB6.box1
    have hsA6 := World.block_lt_of_cell? _ _ a_0; dsimp only at hsA6
    have hsB6 := World.block_lt_of_cell? _ _ b_0; dsimp only at hsB6
    have e_0 := E6.box1; have ef_0 := EW6.frz 0 (by omega)
    have f_0 := F6.box1; have ff_0 := FW6.frz 0 (by omega)
    have hsE7 := World.block_lt_of_cell? _ _ e_0; dsimp only at hsE7
    have hsF7 := World.block_lt_of_cell? _ _ f_0; dsimp only at hsF7
    go_upto_region 6 with fail
    go_region_held3 (fun w' => w'.cell? ⟨bA, 0, none⟩ = some (.slice xa la.length ca) ∧ w'.cell? ⟨bB, 0, none⟩ = some (.slice xb lb.length cb)) (first | exact ⟨a_0, b_0⟩ | go_keep) (fail)
    all_goals go_wp2_with fail
    all_goals
      first
        | (obtain ⟨w8, hW8⟩ : ∃ W, W = ((w6.setCell ⟨w.heap.size, 0, none⟩ (.slice xa la.length ca)).setCell ⟨w.heap.size + 1, 0, none⟩ (.slice xb lb.length cb)).drew := ⟨_, rfl⟩
           rw [← hW8]
           obtain ⟨F8, e_8, f_8⟩ := hfin.out w6 w8 xb cb lb (.inl hW8) SA6 SB6 ⟨b1, b2, b3⟩ hB6 E6 F6)
        | (obtain ⟨w8, hW8⟩ : ∃ W, W = ((w6.setCell ⟨w.heap.size + 1, 0, none⟩ (.slice xb lb.length cb)).setCell ⟨w.heap.size, 0, none⟩ (.slice xa la.length ca)).drew := ⟨_, rfl⟩
           rw [← hW8]
           obtain ⟨F8, e_8, f_8⟩ := hfin.out w6 w8 xb cb lb (.inr hW8) SA6 SB6 ⟨b1, b2, b3⟩ hB6 E6 F6)
      clear hW8
      refine bodyPost_ret (v := .tuple #[.agg #[.slice xa la.length ca], .agg #[.slice xb lb.length cb]]) (by simp [results, Try.results6, go_sem, e_8, f_8]) rfl ?_
      exact F8
end Go.Proofs.Ytpblhonnknmjjaa
