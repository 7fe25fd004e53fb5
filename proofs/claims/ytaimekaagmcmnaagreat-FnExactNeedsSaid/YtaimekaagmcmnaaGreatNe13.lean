/- Parts of the proof, merged: Copy2, Copy3. -/
import Derived.Deep.RegionHeld3
import Derived.Test.YtaimekaagmcmnaaGreatNe12
/- A pattern's copy is the call's own. -/
namespace Go.Proofs.YtaimekaagmcmnaaGreat
open Go.RowKit
set_option linter.unusedVariables false
set_option linter.unusedSimpArgs false
attribute [local go_sem] Ext.cell

def PatSmall (q : GPat) : Prop := q.nodes.length ≤ 1048576 ∧ ∀ x ∈ q.nodes, x.kids.length ≤ 1048576
structure PSt (lo B : Nat) (w : World) (g cap n : Nat) (ps : List PRow) (j : Nat) (rows : List (List Value)) (pss : List (List Nat)) : Prop where
  own : w.ownsRow lo 111 4 (.slice (some ⟨g, 0, none⟩) n cap) n rows.flatten
  wide : ∀ r ∈ rows, r.length = 4
  lr : rows.length = n
  done : RowsO GPNode.O 4 w pss (rows.take j) ((ps.take j).map (·.1))
  rest : ∀ i p, j ≤ i → ps[i]? = some p → rows[i]? = some (prow p)
  nd : pss.flatten.Nodup
  far : ∀ b ∈ pss.flatten, B < b
theorem PSt.start {lo B : Nat} {w : World} {g cap : Nat} {ps : List PRow} (h : OwnF 111 4 prow pwf lo w (.slice (some ⟨g, 0, none⟩) ps.length cap) ps) : PSt lo B w g cap ps.length ps 0 (ps.map prow) [] :=
  ⟨h.1, fun r hr => by obtain ⟨x, _, rfl⟩ := List.mem_map.1 hr; rfl, by simp, RowsO.nil, fun i p _ hp => by rw [List.getElem?_map, hp]; rfl, List.nodup_nil, fun b hb => by cases hb⟩
theorem PSt.below {lo B : Nat} {w w' : World} {g cap n : Nat} {ps : List PRow} {j : Nat} {rows : List (List Value)} {pss : List (List Nat)} (h : PSt lo B w g cap n ps j rows pss) (hb : Below w.heap.size w w') : PSt lo B w' g cap n ps j rows pss :=
  ⟨own_below h.own hb, h.wide, h.lr, h.done.below GPNode.ok hb, h.rest, h.nd, h.far⟩
theorem PSt.step {lo B : Nat} {w w' : World} {g cap n : Nat} {ps : List PRow} {j : Nat} {rows : List (List Value)} {pss : List (List Nat)} {p : PRow} {u : Value} {bs : List Nat} (h : PSt lo B w g cap n ps j rows pss) (hp : ps[j]? = some p) (hwf : pwf p)
    (hM : MidO 111 4 lo w' g cap n rows j ((prow p).set 3 u)) (hK : Kept (· = g) w w') (hg : g ≤ B) (hS : SlO 3 1 (FlatO intRow I64) bs w' u p.1.kids) (hnd : bs.Nodup) (hfar : ∀ b ∈ bs, w.heap.size ≤ b) (hB : B < w.heap.size) :
    PSt lo B w' g cap n ps (j + 1) (rows.set j ((prow p).set 3 u)) (pss ++ [bs]) := by
  have hj := hM.hj
  refine ⟨hM.own, fun r hr => ?_, by rw [List.length_set]; exact h.lr, ?_, fun i q hi hq => ?_, ?_, fun b hb => ?_⟩
  · rcases List.mem_or_eq_of_mem_set hr with h1 | h1
    · exact h.wide r h1
    · rw [h1]; rfl
  · have e1 : (rows.set j ((prow p).set 3 u)).take (j + 1) = rows.take j ++ [(prow p).set 3 u] := by
      rw [List.take_add_one, List.getElem?_set_self (by rw [h.lr]; exact hj), List.take_set_of_le (Nat.le_refl _)]
      rfl
    have e2 : (ps.take (j + 1)).map (·.1) = (ps.take j).map (·.1) ++ [p.1] := by rw [take_snoc' hp, List.map_append]; rfl
    rw [e1, e2]
    exact (h.done.kept GPNode.ok hK (fun b hb e => by have := h.far b hb; omega)).push rfl ⟨u, rfl, hwf, hS⟩
  · rw [List.getElem?_set_ne (by omega)]
    exact h.rest i q (by omega) hq
  · rw [List.flatten_append, List.flatten_singleton]
    exact List.nodup_append.2 ⟨h.nd, hnd, fun b h1 b2 h2 e => by subst e; have := h.done.lt GPNode.ok _ h1; have := hfar _ h2; omega⟩
  · rw [List.flatten_append, List.flatten_singleton] at hb
    rcases List.mem_append.1 hb with h1 | h1
    · exact h.far b h1
    · have := hfar b h1; omega
theorem PSt.full {lo B : Nat} {w : World} {g cap n : Nat} {ps : List PRow} {rows : List (List Value)} {pss : List (List Nat)} (h : PSt lo B w g cap n ps n rows pss) (hn : n = ps.length) (hg : g ≤ B) (hlo : lo ≤ B) :
    ∃ bs, SlO 111 4 GPNode.O bs w (.slice (some ⟨g, 0, none⟩) n cap) (ps.map (·.1)) ∧ bs.Nodup ∧ ∀ b ∈ bs, lo ≤ b := by
  have h1 := h.done
  rw [List.take_of_length_le (by rw [h.lr]; exact Nat.le_refl _), List.take_of_length_le (by omega)] at h1
  have hG : GrowO 111 4 GPNode.O lo w (.slice (some ⟨g, 0, none⟩) n cap) pss (ps.map (·.1)) := ⟨rows, by rw [List.length_map, ← hn]; exact h.own, h1⟩
  have h2 := (own_base h.own g rfl).1
  refine ⟨_, hG.slO, ?_, fun b hb => ?_⟩
  · rw [fpO_slice]
    exact List.nodup_cons.2 ⟨fun hb => by have := h.far g hb; omega, h.nd⟩
  · rw [fpO_slice] at hb
    rcases List.mem_cons.1 hb with h3 | h3
    · omega
    · have := h.far b h3; omega

set_option maxRecDepth 100000 in
set_option maxHeartbeats 8000000 in
theorem copyPat_o (q : GPat) (hS : PatSmall q) (r : List Value) (lo : Nat) (w : World) (hr : GPat.R lo w r q) :
    Calls Tryz.prog 146 #[.agg r.toArray] w fun e w' => ∃ r' bs, e = .returned (.agg r'.toArray) ∧ GPat.O bs w' r' q ∧ bs.Nodup ∧ (∀ b ∈ bs, w.heap.size ≤ b) ∧ Below w.heap.size w w' := by
  obtain ⟨u0, rfl, _, h0⟩ := hr
  obtain ⟨ua, uc, rfl⟩ := h0.form
  obtain ⟨hS1, hS2⟩ := hS
  obtain ⟨ps, hps, hu, hk⟩ := sl_rows h0
  obtain ⟨ns⟩ := q
  dsimp only at *
  subst hps
  rw [List.length_map] at hS1
  have hl : (ps.map (·.1)).length = ps.length := List.length_map ..
  rw [hl] at h0 hu ⊢
  clear h0
  have hgood : PRowR.Good := ⟨fun h _ => h, fun h _ => h⟩
  have hwfs := flatP.wfs hu
  have cC := fun W (hW : Below w.heap.size w W) => clonePNode_o ps (.slice ua ps.length uc) lo hS1 W (hu.below hgood hW)
  have cK := fun p (hp : p ∈ ps) W (hW : Below w.heap.size w W) => cloneInt_o p.1.kids (.slice p.2.1 p.1.kids.length p.2.2) lo (hS2 p.1 (List.mem_map_of_mem hp)) W ((hk p hp).below IntR.good hW)
  obtain ⟨n, hn⟩ : ∃ n, n = ps.length := ⟨_, rfl⟩
  rw [← hn] at hS1 cC ⊢
  clear hu hl hS2 hk
  replace hn := Lib.hid hn; replace cC := Lib.hid cC; replace cK := Lib.hid cK; replace hwfs := Lib.hid hwfs
  show Calls Tryz.prog 146 #[.agg #[.slice ua n uc]] w _
  go_enter Tryz.func146, Tryz.ntmps146
  go_upto_region 1 with fail
  have P : RowAt (w.alloc (.cells #[.slice ua n uc] 83)) (w.heap.size) 0 [.slice ua n uc] := RowAt.box w #[.slice ua n uc] 83
  have P := P.below (show Below (w.alloc (.cells #[.slice ua n uc] 83)).heap.size (w.alloc (.cells #[.slice ua n uc] 83)) ((w.alloc (.cells #[.slice ua n uc] 83)).alloc (.cells #[.slice none 0 0] 83)) by go_grown)
  have E : RowAt ((w.alloc (.cells #[.slice ua n uc] 83)).alloc (.cells #[.slice none 0 0] 83)) (w.heap.size + 1) 0 [.slice none 0 0] := by have h := RowAt.box (w.alloc (.cells #[.slice ua n uc] 83)) #[.slice none 0 0] 83; simp only [World.size_alloc] at h; exact h
  have EW : Wr ((w.alloc (.cells #[.slice ua n uc] 83)).alloc (.cells #[.slice none 0 0] 83)) (w.heap.size + 1) 0 1 := by have h := Wr.box (w.alloc (.cells #[.slice ua n uc] 83)) #[.slice none 0 0] 83; simp only [World.size_alloc] at h; exact h
  have hw : Below w.heap.size w ((w.alloc (.cells #[.slice ua n uc] 83)).alloc (.cells #[.slice none 0 0] 83)) := by go_grown
  generalize ((w.alloc (.cells #[.slice ua n uc] 83)).alloc (.cells #[.slice none 0 0] 83)) = w0 at *
  have hs0 := hw.size
  have p_0 := P.box1; have hsP := World.block_lt_of_cell? _ _ p_0; dsimp only at hsP; have ef_0 := EW.frz 0 (by omega); have e_0 := E.box1; have hsE := World.block_lt_of_cell? _ _ e_0; dsimp only at hsE
  go_upto_region 2 with (go_at_call 167; (with_reducible refine (cC.out _ hw).mono ?_); rintro e w1 ⟨v, rfl, O1, hb1⟩; obtain ⟨va, vc, rfl⟩ := O1.form; rw [← hn.out] at O1 ⊢)
  obtain ⟨w2, hW2⟩ : ∃ W, W = w1.alloc (.cells #[.slice va n vc] 83) := ⟨_, rfl⟩
  rw [← hW2]
  have hb2 : Below w1.heap.size w1 w2 := by rw [hW2]; go_grown
  have D : RowAt w2 w1.heap.size 0 [.slice va n vc] := by rw [hW2]; exact RowAt.box w1 #[_] _
  have hs1 := hb1.size
  have hs2 : w1.heap.size < w2.heap.size := World.block_lt_of_cell? _ _ D.box1
  have hb02 : Below w0.heap.size w0 w2 := hb1.trans (hb2.mono hs1)
  have E2 := E.below hb02
  have EW2 := EW.below hb02
  have hw2 := hw.trans (hb02.mono hs0)
  have O2 := O1.below hb2
  obtain ⟨bO, hbO⟩ : ∃ b, b = w1.heap.size := ⟨_, rfl⟩
  rw [← hbO] at D hs2 ⊢
  have hlo : w.heap.size + 1 < w0.heap.size := World.block_lt_of_cell? _ _ e_0
  have hbO2 : w0.heap.size ≤ bO := by omega
  obtain ⟨l0, hl0⟩ : ∃ l, l = w0.heap.size := ⟨_, rfl⟩
  rw [← hl0] at O2 hlo hbO2
  have hvb := O1.base
  rw [← hbO] at hvb
  clear hW2 hb1 hb2 O1 P E EW p_0 e_0 hsP hsE hb02 hw hs1 hbO hl0
  have hvc : vc ≤ 9223372036854775807 := by
    rcases O2.1.2 with ⟨hv, _⟩ | ⟨g, cap, cur, hv, _, _, _, h4, _⟩
    · injection hv with e1 e2 e3; omega
    · injection hv with e1 e2 e3; unfold maxLen at h4; omega
  have hF0 : 0 < n → ∃ g rows pss, va = some ⟨g, 0, none⟩ ∧ g < bO ∧ PSt l0 bO w2 g vc n ps 0 rows pss := fun h0 => by
    obtain ⟨g, cap, hv, -⟩ := own_cells O2.1 (by rw [← hn.out]; exact h0)
    obtain ⟨rfl, rfl⟩ : va = some ⟨g, 0, none⟩ ∧ vc = cap := by injection hv with e1 e2 e3; exact ⟨e1, e3⟩
    have h1 := hvb g rfl
    have h2 := O2
    have h3 := hn.out
    subst h3
    exact ⟨g, _, _, rfl, h1.2, PSt.start h2⟩
  replace hF0 := Lib.hid hF0
  have d_0 := D.box1
  clear O2 hvb cC
  go_wp2_with fail
  go_loopw [13] (fun i wr => ∃ j : Nat, j ≤ n ∧ i = .int .i64 j ∧ Below w.heap.size w wr ∧ RowAt wr bO 0 [.slice va n vc] ∧ RowAt wr (w.heap.size + 1) 0 [.slice none 0 0] ∧ Wr wr (w.heap.size + 1) 0 1 ∧ bO < wr.heap.size ∧ Hid (0 < n → ∃ g rows pss, va = some ⟨g, 0, none⟩ ∧ g < bO ∧ PSt l0 bO wr g vc n ps j rows pss)) (fun i _ => n - (intOf i).toNat)
  case atStart => exact ⟨0, by omega, rfl, hw2, D, E2, EW2, hs2, hF0⟩
  case round =>
    clear hF0 D E2 EW2 hs2 hw2 d_0
    obtain ⟨j, hj, rfl, hw, D, E, EW, hs, hF⟩ := hrel
    have hz := hw.size
    by_cases hlt : j < n
    · obtain ⟨g, rows, pss, rfl, hg, hP⟩ := hF.out (by omega)
      clear hF
      obtain ⟨p, hp⟩ : ∃ p, ps[j]? = some p := ⟨_, List.getElem?_eq_getElem (by have := hn.out; omega)⟩
      have M0 := MidO.start hP.own hP.wide hP.lr (hP.rest j p (Nat.le_refl _) hp)
      have hwf : pwf p := hwfs.out p (List.mem_of_getElem? hp)
      have cQ := fun W hW => cK.out p (List.mem_of_getElem? hp) W hW
      have hgn : ∀ b ∈ pss.flatten, g ≠ b := fun b hb => by have := hP.far b hb; omega
      obtain ⟨e_0, -⟩ := M0.cell (off := j * 4) (t := 0) (by omega) rfl
      obtain ⟨e_1, -⟩ := M0.cell (off := j * 4 + 1) (t := 1) (by omega) rfl
      obtain ⟨e_2, -⟩ := M0.cell (off := j * 4 + 2) (t := 2) (by omega) rfl
      obtain ⟨e_3, -⟩ := M0.cell (off := j * 4 + 3) (t := 3) (by omega) rfl
      have hgw := M0.lt
      have d_0 := D.box1
      obtain ⟨x, ka, kc⟩ := p
      obtain ⟨kd, nn, st, ks⟩ := x
      dsimp only at *
      obtain ⟨m, hm⟩ : ∃ m, m = ks.length := ⟨_, rfl⟩
      rw [← hm] at cQ e_3
      replace hm := Lib.hid hm; replace hP := Lib.hid hP; replace M0 := Lib.hid M0; replace hp := Lib.hid hp; replace hwf := Lib.hid hwf; replace cQ := Lib.hid cQ; replace hgn := Lib.hid hgn
      go_upto_region 5 with fail
      obtain ⟨w3, hW3⟩ : ∃ W, W = wr.alloc (.cells #[.int .i64 kd, .int .i64 nn, .string st, .slice ka m kc] 111) := ⟨_, rfl⟩
      rw [← hW3]
      have hb3 : Below wr.heap.size wr w3 := by rw [hW3]; go_grown
      have N : RowAt w3 wr.heap.size 0 [.int .i64 kd, .int .i64 nn, .string st, .slice ka m kc] := by rw [hW3]; exact RowAt.box _ _ _
      have hs3 : wr.heap.size < w3.heap.size := World.block_lt_of_cell? _ _ N.box4.1
      have hw3 := hw.trans (hb3.mono hz)
      obtain ⟨bN, hbN⟩ : ∃ b, b = wr.heap.size := ⟨_, rfl⟩
      have hb3' := hb3
      rw [← hbN] at N hs3 hb3 hs hgw ⊢
      have n_3 := N.box4.2.2.2
      have d_3 := (D.below hb3').box1
      have M3 := M0.out.below hb3'
      replace hbN := Lib.hid hbN
      clear e_0 e_1 e_2 e_3 d_0 hW3
      replace M3 := Lib.hid M3
      go_region_held3 (fun w' => w'.cell? ⟨bO, 0, none⟩ = some (.slice (some ⟨g, 0, none⟩) n vc) ∧ w'.cell? ⟨bN, 3, none⟩ = some (.slice ka m kc)) (first | exact ⟨d_3, n_3⟩ | exact ⟨D5 _, N5 _⟩ | go_keep)
        ((go_at_call 168; (with_reducible refine (cQ.out w3.drew (hw3.trans (by go_grown))).mono ?_); rintro e w4 ⟨u, rfl, O4, hb4⟩; obtain ⟨a4, c4, rfl⟩ := O4.form; have d_4 := cell_below hb4 d_3; have n_4 := cell_below hb4 n_3; have D5 := (fun v => (RowAt.set_other (o := j * 4 + 3) (show RowAt w4 bO 0 [_] from ((D.below hb3').below (show Below w3.heap.size w3 w3.drew by go_grown)).below hb4) (show bO ≠ g by omega) v).box1); have N5 := (fun v => (RowAt.set_other (o := j * 4 + 3) ((N.below (show Below w3.heap.size w3 w3.drew by go_grown)).below hb4) (show bN ≠ g by omega) v).box4.2.2.2); have M4 := (M3.out.below (show Below w3.heap.size w3 w3.drew by go_grown)).below hb4; obtain ⟨e_4, f_4⟩ := M4.cell (off := j * 4 + 3) (t := 3) (by omega) rfl))
      have hb34 : Below w3.heap.size w3 w4 := (show Below w3.heap.size w3 w3.drew by go_grown).trans hb4
      have hz3 := hb3'.size
      have hz4 := hb34.size
      obtain ⟨bs, S4, hnd, hfar⟩ := O4.slO flatInt
      have hfar' : ∀ b ∈ bs, w3.heap.size ≤ b := hfar
      have hgl := (own_base M4.own g rfl).1
      have M5 := M4.set (off := j * 4 + 3) (t := 3) (by omega) (by omega) (.slice a4 ks.length c4)
      have K5 := ((Kept.below (S := (· = g)) hb3').trans hz3 (Kept.below hb34)).set (p := ⟨g, j * 4 + 3, none⟩) rfl (.slice a4 ks.length c4)
      have S5 := S4.kept (flatO_ok flatInt) ((Kept.refl (· = g) w4).set (p := ⟨g, j * 4 + 3, none⟩) rfl (.slice a4 ks.length c4)) (fun b hb e => by have := hfar' b hb; omega)
      have P5 := hP.out.step hp.out hwf.out M5 K5 (by omega) S5 hnd (fun b hb => Nat.le_trans hz3 (hfar' b hb)) (by have := hbN.out; omega)
      have DD := ((D.below hb3').below hb34).set_other (o := j * 4 + 3) (show bO ≠ g by omega) (.slice a4 ks.length c4)
      have EE := ((E.below hb3').below hb34).set_other (o := j * 4 + 3) (show w.heap.size + 1 ≠ g by omega) (.slice a4 ks.length c4)
      have EWW : Wr (w4.setCell ⟨g, j * 4 + 3, none⟩ (.slice a4 ks.length c4)) (w.heap.size + 1) 0 1 := ((EW.below hb3').below hb34).kept ((Kept.refl (· = g) w4).set (p := ⟨g, j * 4 + 3, none⟩) rfl (.slice a4 ks.length c4)) (by omega)
      have BB := ((hw.trans (hb3'.mono hz)).trans (hb34.mono (by omega))).setCell (p := ⟨g, j * 4 + 3, none⟩) (by show w.heap.size ≤ g; omega) (.slice a4 ks.length c4)
      have ZZ : bO < (w4.setCell ⟨g, j * 4 + 3, none⟩ (.slice a4 ks.length c4)).heap.size := by simp [World.setCell]; have := hbN.out; omega
      replace P5 := Lib.hid P5; replace M5 := Lib.hid M5; replace K5 := Lib.hid K5; replace S5 := Lib.hid S5
      clear D5 N5 hfar hfar' S4 O4
      go_wp2_with fail
      go_roundw
      case rel => exact ⟨j + 1, by omega, by go_num, BB, DD, EE, EWW, ZZ, fun _ => ⟨g, _, _, rfl, hg, P5.out⟩⟩
      case measure => simp [intOf]; omega
    · obtain rfl : j = n := by omega
      have d_0 := D.box1
      have e_0 := E.box1
      have ef_0 := EW.frz 0 (by omega)
      have hsE := World.block_lt_of_cell? _ _ e_0; dsimp only at hsE
      have hfin : ∃ r' bs, Ending.returned (.agg #[.slice va j vc]) = .returned (.agg (r' : List Value).toArray) ∧ GPat.O bs (wr.setCell ⟨w.heap.size + 1, 0, none⟩ (.slice va j vc)) r' ⟨ps.map (·.1)⟩ ∧ bs.Nodup ∧ (∀ b ∈ bs, w.heap.size ≤ b) ∧ Below w.heap.size w (wr.setCell ⟨w.heap.size + 1, 0, none⟩ (.slice va j vc)) := by
        have hB := hw.setCell (p := ⟨w.heap.size + 1, 0, none⟩) (by show w.heap.size ≤ w.heap.size + 1; omega) (.slice va j vc)
        by_cases h0 : 0 < j
        · obtain ⟨g, rows, pss, rfl, hg, hP⟩ := hF.out h0
          obtain ⟨bs, h1, h2, h3⟩ := hP.full hn.out (by omega) hbO2
          exact ⟨_, bs, rfl, ⟨_, rfl, trivial, h1.kept GPNode.ok ((Kept.refl (· = w.heap.size + 1) wr).set (p := ⟨w.heap.size + 1, 0, none⟩) rfl _) (fun b hb e => by have := h3 b hb; omega)⟩, h2, (fun b hb => by have := h3 b hb; omega), hB⟩
        · obtain rfl : j = 0 := by omega
          have h1 : ps = [] := List.length_eq_zero_iff.1 hn.out.symm
          subst h1
          exact ⟨_, [], rfl, ⟨_, rfl, trivial, .inl ⟨rfl, rfl, _, _, rfl, hvc⟩⟩, List.nodup_nil, (fun b hb => by cases hb), hB⟩
      replace hfin := Lib.hid hfin
      clear hF E EW D
      go_wp2_with fail
      have p_0 := cell_setCell_eq wr (w.heap.size + 1) 0 (.slice va j vc) e_0
      refine bodyPost_ret (v := .agg #[.slice va j vc]) (by simp [results, Tryz.results146, go_sem, p_0]) rfl ?_
      exact hfin.out

end Go.Proofs.YtaimekaagmcmnaaGreat

/- Patterns' copies, a code's copy: the call's own. -/
namespace Go.Proofs.YtaimekaagmcmnaaGreat
open Go.RowKit
set_option linter.unusedVariables false
set_option linter.unusedSimpArgs false
attribute [local go_sem] Ext.cell

theorem GrowO.push {α : Type} {O : FootR α} {sz : Nat} {e : TypeId} {lo n : Nat} {w : World} {v : Value} {ps : List (List Nat)} {rows : List (List Value)} {xs : List α} {p : List Nat} {r : List Value} {x : α}
    (h : RowsO O sz w ps rows xs) (hn : n = xs.length) (hown : w.ownsRow lo e sz v (n + 1) (rows.flatten ++ r)) (hr : r.length = sz) (ho : O p w r x) : GrowO e sz O lo w v (ps ++ [p]) (xs ++ [x]) := by
  subst hn
  exact ⟨rows ++ [r], by rw [List.flatten_append, List.flatten_singleton, List.length_append]; exact hown, h.push hr ho⟩
theorem fpO_push {v : Value} {g n cap s0 s1 : Nat} {ps : List (List Nat)} {bs : List Nat} (hnd : (fpO v ps).Nodup) (hlt : ∀ b ∈ fpO v ps, b < s0) (hb : bs.Nodup) (hb0 : ∀ b ∈ bs, s0 ≤ b) (hb1 : ∀ b ∈ bs, b < s1) (hs : s0 ≤ s1) (hat : v.ownBlock = some g ∨ g = s1) :
    (fpO (.slice (some ⟨g, 0, none⟩) n cap) (ps ++ [bs])).Nodup := by
  rw [fpO_slice, List.flatten_append, List.flatten_singleton, List.nodup_cons]
  have h1 : ps.flatten.Nodup := by unfold fpO at hnd; exact (List.nodup_append.1 hnd).2.1
  refine ⟨fun h => ?_, List.nodup_append.2 ⟨h1, hb, fun b h2 b2 h3 e => by subst e; have := hlt b (mem_fpO.2 (.inr h2)); have := hb0 b h3; omega⟩⟩
  rcases hat with hv | rfl
  · have h3 := hlt g (mem_fpO.2 (.inl hv))
    rcases List.mem_append.1 h with h | h
    · unfold fpO at hnd
      exact (List.nodup_append.1 hnd).2.2 g (by rw [hv]; simp) g h rfl
    · have := hb0 g h; omega
  · rcases List.mem_append.1 h with h | h
    · have := hlt g (mem_fpO.2 (.inr h)); omega
    · have := hb1 g h; omega

set_option maxRecDepth 100000 in
set_option maxHeartbeats 8000000 in
theorem copyPats_o (l : List GPat) (hl : l.length ≤ 1048576) (hS : ∀ q ∈ l, PatSmall q) (u : Value) (lo : Nat) (w : World) (hu : Sl GPat.R 1 lo w u l) :
    Calls Tryz.prog 120 #[u] w fun e w' => ∃ v bs, e = .returned v ∧ SlO 83 1 GPat.O bs w' v l ∧ bs.Nodup ∧ (∀ b ∈ bs, w.heap.size ≤ b) ∧ Below w.heap.size w w' := by
  obtain ⟨ua, uc, rfl, ul, um, h0⟩ := hu
  obtain ⟨n, hn⟩ : ∃ n, n = l.length := ⟨_, rfl⟩
  rw [← hn] at ul hl ⊢
  have cP := fun (q : GPat) (hq : q ∈ l) (r : List Value) (lo : Nat) (w : World) (hr : GPat.R lo w r q) => copyPat_o q (hS q hq) r lo w hr
  clear hS
  replace hn := Lib.hid hn; replace h0 := Lib.hid h0; replace cP := Lib.hid cP
  obtain ⟨iD, hi0, hz0, hz1, hz2⟩ := info_parts info_PatQ; have ID := Lib.hid hi0; have ID0 := Lib.hid hz0; have ID1 := Lib.hid hz1; have ID2 := Lib.hid hz2; clear hi0 hz0 hz1 hz2
  go_enter Tryz.func120, Tryz.ntmps120
  go_upto_region 2 with fail
  obtain ⟨w1, hW1⟩ : ∃ W, W = w.alloc (.cells #[] 83) := ⟨_, rfl⟩
  rw [← hW1]
  have hw1 : Below w.heap.size w w1 := by rw [hW1]; go_grown
  have hs1 : w.heap.size < w1.heap.size := by rw [hW1]; simp
  have G1 : GrowO 83 1 GPat.O w.heap.size w1 (.slice (some ⟨w.heap.size, 0, none⟩) 0 0) [] ([] : List GPat) := ⟨[], own_empty_at (by rw [hW1]; exact heap_alloc_new' _ _ _ rfl) (Nat.le_refl _), RowsO.nil⟩
  clear hW1
  replace G1 := Lib.hid G1
  go_wp2_with fail
  go_loopw [3, 9] (fun v i wr => ∃ (k : Nat) (pss : List (List Nat)), k ≤ n ∧ i = .int .i64 k ∧ Below w.heap.size w wr ∧ Hid (GrowO 83 1 GPat.O w.heap.size wr v pss (l.take k)) ∧ Hid (fpO v pss).Nodup ∧ Hid (∀ b ∈ fpO v pss, w.heap.size ≤ b)) (fun _ i _ => n - (intOf i).toNat)
  case atStart => exact ⟨0, [], by omega, rfl, hw1, G1, by show (fpO _ _).Nodup; rw [fpO_slice]; simp, fun b hb => by rw [fpO_slice] at hb; simp at hb; omega⟩
  case round =>
    clear G1 hw1 hs1
    obtain ⟨k, pss, hk, rfl, hw, hG, hN, hL⟩ := hrel
    have hz := hw.size
    obtain ⟨va, vc, rfl⟩ := hG.out.form
    by_cases hlt : k < n
    · have hvl : (l.take k).length = k := by rw [List.length_take, ← hn.out]; omega
      obtain ⟨b1, o1, q, s1, _, rfl, P1, hx, r1⟩ := (h0.out.below GPat.good hw).get hn hlt
      have Hx := hx
      obtain ⟨u0, rfl, _, q0⟩ := hx
      obtain ⟨qa, qc, rfl⟩ := q0.form
      have e_0 : wr.cell? ⟨b1, o1 + k, none⟩ = some (.slice qa q.nodes.length qc) := by simpa using r1 0 _ rfl
      rw [hvl] at hG hN hL ⊢
      clear r1 q0
      have hltf := hG.out.lt GPat.ok
      go_upto_region 5 with fail
      obtain ⟨w3, hW3⟩ : ∃ W, W = wr.alloc (.cells #[.slice qa q.nodes.length qc] 83) := ⟨_, rfl⟩
      rw [← hW3]
      have hb3 : Below wr.heap.size wr w3 := by rw [hW3]; go_grown
      have N : RowAt w3 wr.heap.size 0 [.slice qa q.nodes.length qc] := by rw [hW3]; exact RowAt.box _ _ _
      have n_0 := N.box1
      have hs3 : wr.heap.size < w3.heap.size := World.block_lt_of_cell? _ _ n_0
      have cQ := cP.out q (List.mem_of_getElem? P1.out) _ lo w3 (GPat.good.below Hx hb3)
      clear hW3 e_0 Hx
      generalize q.nodes.length = nq at *
      replace cQ := Lib.hid cQ; replace hltf := Lib.hid hltf
      obtain ⟨rows, hown0, hrows⟩ := hG.out
      rw [hvl] at hown0
      replace hown0 := Lib.hid hown0; replace hrows := Lib.hid hrows
      have hob := own_base hown0.out
      replace hob := Lib.hid hob
      clear hG
      go_wp2_with (first | (go_at_call 146; (with_reducible refine (cQ.out).mono ?_); rintro e w4 ⟨r', bs, rfl, O4, hnd, hfr, hb4⟩; obtain ⟨u4, rfl, hwf4, s4⟩ := O4; obtain ⟨a4, c4, rfl⟩ := s4.form; have hb34 : Below wr.heap.size wr w4 := hb3.trans (hb4.mono (by omega)); have own4 := Lib.hid (own_below hown0.out hb34); have z4 := hb4.size; replace s4 := Lib.hid s4; replace hnd := Lib.hid hnd; replace hfr := Lib.hid hfr) | (at_builtin; refine wpList_append_lies _ rfl _ _ _ rfl (w.heap.size) 83 iD _ 1 24 Tryz.underlying72 ID.out ID0.out ID1.out ID2.out rfl (by omega) (.slice va k vc) (k) (rows.flatten) rfl (own_below own4.out (by go_grown)) ⟨w4.heap.size, 0, none⟩ 1 1 [.slice a4 q.nodes.length c4] rfl rfl (World.news_of_block (cs := #[.slice a4 q.nodes.length c4]) (t := 83) (fr := (0, 0)) (heap_alloc_new' _ _ _ (by simp))) (by intro u hu; simp at hu; (first | (subst hu; rfl) | (rcases hu with rfl | rfl | rfl | rfl <;> rfl) | (rcases hu with rfl | rfl | rfl | rfl | rfl | rfl <;> rfl) | (rcases hu with rfl | rfl | rfl | rfl | rfl | rfl | rfl <;> rfl) | (rcases hu with rfl | rfl | rfl | rfl | rfl | rfl | rfl | rfl | rfl <;> rfl))) (by omega) (by unfold maxLen; omega) (by omega) (by simp; omega) _ rfl ?_; intro g2 cap2 w6 hown hgrow hat hlt2))
      have k6 := kept_of hgrow (w := w4) (by go_grown)
      have hsA : (w4.alloc (.cells #[.slice a4 q.nodes.length c4] 83)).heap.size = w4.heap.size + 1 := by simp
      have hz6 : w4.heap.size + 1 ≤ w6.heap.size := by have := hgrow.size; rw [hsA] at this; exact this
      have hz34 := hb34.size
      have hN' := hN.out
      have hR6 := (hrows.out.below GPat.ok hb34).kept GPat.ok k6 (fun b hb e => by
        unfold fpO at hN'
        exact (List.nodup_append.1 hN').2.2 b (by rw [← e]; simp) b hb rfl)
      have hS6 := s4.out.kept GPNode.ok k6 (fun b hb e => by have h1 := (hob.out b e.symm).2; have h2 := hfr.out b hb; omega)
      have hG6 : GrowO 83 1 GPat.O w.heap.size w6 (.slice (some ⟨g2, 0, none⟩) (k + 1) cap2) (pss ++ [bs]) (l.take (k + 1)) := by
        rw [take_snoc' P1.out]
        exact GrowO.push hR6 hvl.symm hown rfl ⟨_, rfl, hwf4, hS6⟩
      have hN6 := fpO_push (n := k + 1) (cap := cap2) (s0 := wr.heap.size) (s1 := w4.heap.size + 1) hN' hltf.out hnd.out (fun b hb => by have := hfr.out b hb; omega) (fun b hb => by have := s4.out.lt GPNode.ok b hb; omega) (by omega) (by rw [← hsA]; exact hat)
      have hB6 : Below w.heap.size w w6 := below_grown2 (wr := wr) (w := w) (base := w.heap.size) hgrow (hb34.trans (by go_grown)) hw hz hown0.out
      replace hG6 := Lib.hid hG6; replace hN6 := Lib.hid hN6
      go_roundw
      case rel => exact ⟨k + 1, pss ++ [bs], by omega, by go_num, hB6, hG6, hN6, fun b hb => by
        rw [fpO_slice, List.flatten_append, List.flatten_singleton] at hb
        rcases List.mem_cons.1 hb with h | h
        · rcases hat with h2 | h2
          · exact h ▸ (hob.out g2 h2).1
          · rw [hsA] at h2; omega
        · rcases List.mem_append.1 h with h | h
          · exact hL.out b (mem_fpO.2 (.inr h))
          · have := hfr.out b h; omega⟩
      case measure => simp [intOf]; omega
    · obtain rfl : k = n := by omega
      have hvl : (l.take k).length = k := by rw [List.length_take, ← hn.out]; omega
      rw [hvl] at hG hN hL ⊢
      have hG' := hG.out
      rw [List.take_of_length_le (by rw [← hn.out]; exact Nat.le_refl _)] at hG'
      replace hG' := Lib.hid hG'
      go_wp2_with fail
      go_returns
      exact ⟨_, _, rfl, hG'.out.slO, hN.out, hL.out, hw⟩

end Go.Proofs.YtaimekaagmcmnaaGreat
