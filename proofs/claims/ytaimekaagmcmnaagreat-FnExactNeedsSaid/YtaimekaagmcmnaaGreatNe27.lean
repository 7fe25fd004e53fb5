/- Parts of the proof, merged: Parse, Gr1, Cnt1. -/
import Derived.Deep.RegionHeld3
import Derived.Deep.RegionLaw
import Derived.Test.YtaimekaagmcmnaaGreatNe26
/- The program's Parse where it meets no error. -/
namespace Go.Proofs.YtaimekaagmcmnaaGreat
open Go.RowKit
set_option linter.unusedVariables false
set_option linter.unusedSimpArgs false
attribute [local go_sem] Ext.cell

def TokQ : Reading GTok := fun _ _ r x => r = tokRow x ∧ x.wf
theorem flatTokQ : Flat TokQ 4 tokRow GTok.wf := ⟨fun h => h, fun h _ _ => ⟨rfl, h⟩, fun _ => rfl, fun p u hu => by simp [tokRow] at hu; rcases hu with rfl | rfl | rfl | rfl <;> rfl, by decide⟩
theorem pc_ok {L : List GTok} {E lo b : Nat} {w : World} {ta : Option Addr} {tc : Nat} (O : OwnF 181 4 tokRow GTok.wf lo w (.slice ta L.length tc) L) (hL : L.length ≤ 4000) (hE : E ≤ 4000) (hb : w.heap.size ≤ b) : PC.Ok ⟨L, E, ta, tc⟩ b w := by
  obtain ⟨a, c, hv, h1, h2, _⟩ := O.sl flatTokQ
  obtain ⟨rfl, rfl⟩ : ta = a ∧ tc = c := by injection hv with e1 e2 e3; exact ⟨e1, e3⟩
  refine ⟨h1, h2, hL, hE, O.2, fun h0 => ?_⟩
  obtain ⟨g, cap, hv, h3, h4, h5, h6, h7, h8⟩ := own_cells O.1 h0
  obtain ⟨rfl, rfl⟩ : ta = some ⟨g, 0, none⟩ ∧ tc = cap := by injection hv with e1 e2 e3; exact ⟨e1, e3⟩
  exact ⟨g, 0, rfl, by omega, fun i t hi j c hc => by rw [Nat.add_assoc]; exact h7 _ c (flatTokQ.get hi hc)⟩
theorem ret_parse {fn : Func} {tmps : Array Value} {a b c g : Nat} {v0 v1 u1 u2 : Value} {w : World} (hf : fn.results = #[.cell a 32, .tmp b, .tmp c]) (hp : tmps.getD a undef = .pointer (some ⟨g, 0, none⟩)) (hb : tmps.getD b undef = u1) (hc : tmps.getD c undef = u2) (h : RowAt w g 0 [v0, v1]) :
    (results fn tmps).run Tryz.prog w = .ok (.tuple #[.agg #[v0, v1], u1, u2]) w := by
  have hp' : tmps[a]?.getD undef = .pointer (some ⟨g, 0, none⟩) := by simpa using hp
  have hb' : tmps[b]?.getD undef = u1 := by simpa using hb
  have hc' : tmps[c]?.getD undef = u2 := by simpa using hc
  obtain ⟨h0, h1⟩ := h.box2
  simp [results, hf, go_sem, hp', hb', hc', h0, h1]
theorem row2q {w : World} {b : Nat} {a0 a1 : Value} (h : RowAt w b 0 [a0, a1]) (v0 v1 : Value) : RowAt ((w.setCell ⟨b, 0, none⟩ v0).setCell ⟨b, 1, none⟩ v1) b 0 [v0, v1] :=
  (h.putAt (j := 0) (by simp) v0).putAt (j := 1) (by simp) v1
theorem OwnN.readsP {lo : Nat} {w : World} {v : Value} {pss : List (List Nat)} {xs : List GNode} (h : OwnN lo w v pss xs) : Sl GNode.R 6 lo w v xs := (h.grow.slO).sl GNode.ok h.lo
theorem OwnN.lowerP {lo lo' : Nat} {w : World} {v : Value} {pss : List (List Nat)} {xs : List GNode} (h : OwnN lo w v pss xs) (hl : lo' ≤ lo) : OwnN lo' w v pss xs := ⟨by obtain ⟨rows, h1, h2⟩ := h.grow; exact ⟨rows, own_lo h1 hl, h2⟩, h.nd, fun b hb => Nat.le_trans hl (h.lo b hb)⟩
def ParsePost (x : ExT) (w : World) (e : Ending) (w' : World) : Prop :=
  ∃ a v pss, e = .returned (.tuple #[.agg #[.slice a 0 0, v], .int .i64 0, .int .i64 0]) ∧ OwnN w.heap.size w' v pss (layE 0 x) ∧ Below w.heap.size w w'

set_option maxRecDepth 100000 in
set_option maxHeartbeats 16000000 in
theorem Parse_c (s : ByteArray) (hs : s.size ≤ 4000) (F : Nat) (hF : F ≤ 4000) (L : List GTok) (hl : lexL F 0 (restB s 0) [] = some L) (hLn : L.length ≤ 4000) (ht : eqS (sgn (tokAt L s.size 0)) qType = false) (o : POut ExT) (ho : (pfsG L s.size F).expr 0 0 [] = some o)
    (hoi : o.i = L.length) (hz : szE o.t ≤ 600) (hp : ∀ x ∈ layE 0 o.t, x.pats.length ≤ 1048576 ∧ ∀ q ∈ x.pats, q.nodes.length ≤ 600) (w : World) : Calls Tryz.prog 89 #[.string s] w (ParsePost o.t w) := by
  have cL := fun W => Lex_c s hs L F hF hl W
  have hpost : ∀ W a v pss, OwnN w.heap.size W v pss (layE 0 o.t) → Below w.heap.size w W → ParsePost o.t w (.returned (.tuple #[.agg #[.slice a 0 0, v], .int .i64 0, .int .i64 0])) W := fun W a v pss h1 h2 => ⟨a, v, pss, rfl, h1, h2⟩
  generalize ParsePost o.t w = Q at *
  replace cL := Lib.hid cL; replace hpost := Lib.hid hpost; replace hl := Lib.hid hl; replace ho := Lib.hid ho; replace hp := Lib.hid hp; replace hz := Lib.hid hz; replace ht := Lib.hid ht
  go_enter Tryz.func89, Tryz.ntmps89
  go_upto_region 1 with fail
  obtain ⟨w1, hW1⟩ : ∃ W, W = w.alloc (.cells #[.slice none 0 0, .slice none 0 0] 32) := ⟨_, rfl⟩
  rw [← hW1]
  have hb1 : Below w.heap.size w w1 := by rw [hW1]; go_grown
  have R1 : RowAt w1 w.heap.size 0 [.slice none 0 0, .slice none 0 0] := by rw [hW1]; exact RowAt.box w #[_, _] _
  have R1W : Wr w1 w.heap.size 0 2 := by rw [hW1]; exact Wr.box w #[_, _] _
  have hz1 : w1.heap.size = w.heap.size + 1 := by rw [hW1]; simp
  obtain ⟨rb, hrb⟩ : ∃ x, x = w.heap.size := ⟨_, rfl⟩
  rw [← hrb] at R1 R1W ⊢
  clear hW1
  replace hrb := Lib.hid hrb
  go_upto_region 4 with (go_at_call 114; (with_reducible refine (cL.out _).mono ?_); rintro e w2 ⟨lv, rfl, O2, hb2⟩; obtain ⟨ta, tc, rfl⟩ := O2.form)
  have hz2 := hb2.size
  obtain ⟨n, hn⟩ : ∃ n, n = L.length := ⟨_, rfl⟩
  have ok3 := pc_ok (b := w2.heap.size) (E := s.size) O2 hLn hs (Nat.le_refl _)
  rw [← hn] at hoi ⊢
  replace hn := Lib.hid hn
  go_upto_region 5 with fail
  obtain ⟨w3, hW3⟩ : ∃ W, W = w2.alloc (.cells #[.slice ta n tc, .int .i64 0, .int .i64 (s.size : Int), .int .i64 0, .int .i64 0, .slice none 0 0, .slice none 0 0] 158) := ⟨_, rfl⟩
  have hb3 : Below w2.heap.size w2 w3 := by rw [hW3]; go_grown
  have B3 : RowAt w3 w2.heap.size 0 [.slice ta n tc, .int .i64 0, .int .i64 (s.size : Int), .int .i64 0, .int .i64 0, .slice none 0 0, .slice none 0 0] := by rw [hW3]; exact RowAt.box w2 #[_, _, _, _, _, _, _] _
  have B3W : Wr w3 w2.heap.size 0 7 := by rw [hW3]; exact Wr.box w2 #[_, _, _, _, _, _, _] _
  have hz3 : w3.heap.size = w2.heap.size + 1 := by rw [hW3]; simp
  rw [← hW3]
  obtain ⟨b, hb⟩ : ∃ x, x = w2.heap.size := ⟨_, rfl⟩
  rw [← hb] at B3 B3W ok3 ⊢
  have P3 : PS ⟨L, s.size, ta, tc⟩ b w3 0 (.slice none 0 0) [] := ⟨ok3.to (by rw [hb]; exact hb3), by show RowAt w3 b 0 [.slice ta L.length tc, _, _, _, _, _, _]; rw [← hn.out]; exact B3, B3W, OwnF.empty, Nat.zero_le _, Nat.zero_le _⟩
  have R3 := (R1.below hb2).below hb3
  have R3W := (R1W.below hb2).below hb3
  have hw3 := (hb1.trans (hb2.mono (by omega))).trans (hb3.mono (by omega))
  clear hW3 ok3 B3 B3W R1 R1W O2 hb2 hb3 cL hb1
  have cT := types_none P3 ht.out
  replace cT := Lib.hid cT; replace hb := Lib.hid hb
  go_upto_region 6 with (go_at_call 115; (with_reducible refine (cT.out).mono ?_); rintro e w4 ⟨⟨ya, rfl⟩, hb4⟩)
  obtain ⟨w5, hW5⟩ : ∃ W, W = w4.alloc (.cells #[.slice ya 0 0, .slice none 0 0] 32) := ⟨_, rfl⟩
  rw [← hW5]
  have hb5 : Below w4.heap.size w4 w5 := by rw [hW5]; go_grown
  have D5 : RowAt w5 w4.heap.size 0 [.slice ya 0 0, .slice none 0 0] := by rw [hW5]; exact RowAt.box w4 #[_, _] _
  have D5W : Wr w5 w4.heap.size 0 2 := by rw [hW5]; exact Wr.box w4 #[_, _] _
  have hz4 := hb4.size
  have hz5 : w5.heap.size = w4.heap.size + 1 := by rw [hW5]; simp
  obtain ⟨ob, hob⟩ : ∃ x, x = w4.heap.size := ⟨_, rfl⟩
  rw [← hob] at D5 D5W ⊢
  have h35 := hb4.trans (hb5.mono hz4)
  have P5 := P3.below h35
  have R5 := R3.below h35
  have R5W := R3W.below h35
  have hw5 := hw3.trans (h35.mono hw3.size)
  have hrb' := hrb.out
  have hb' := hb.out
  have hrbw : rb ≠ ob := by omega
  have hrb5 : rb < w5.heap.size := by omega
  have hrbb : rb ≠ b := by omega
  have hobb : ob ≠ b := by omega
  have hob5 : ob < w5.heap.size := by omega
  have hwb : w.heap.size ≤ b := by omega
  have hwo : w.heap.size ≤ ob := by omega
  clear hW5 hb4 hb5 h35 P3 R3 R3W hw3 cT hob hrb' hb hb'
  have cX := (good_pfs ⟨L, s.size, ta, tc⟩ b F).expr 0 0 [] o w5 (.slice none 0 0) ho.out P5
  replace cX : Calls Tryz.prog 116 #[.pointer (some ⟨b, 0, none⟩), .int .i64 0] w5 (EPost ⟨L, s.size, ta, tc⟩ b w5 (.slice none 0 0) o) := cX
  replace cX := Lib.hid cX
  go_upto_region 7 with (go_at_call 116; (with_reducible refine (cX.out).mono ?_); rintro e w6 ⟨q6, nv6, rfl, P6, F6, T6⟩)
  have hz6 := F6.size
  have R6 := R5.pf F6 hrbb (by simp [Value.ownBlock])
  have R6W := R5W.pf F6 hrbb (by simp [Value.ownBlock])
  have D6 := D5.pf F6 hobb (by simp [Value.ownBlock])
  have D6W := D5W.pf F6 hobb (by simp [Value.ownBlock])
  have hw6 := hw5.trans (F6.below.mono hwb)
  rw [hoi] at P6
  obtain ⟨p_0, p_1, p_2, p_3, p_4, p_5, p_6⟩ := P6.row.box7p
  have hbl6 := P6.lt
  dsimp only at p_0 p_1 p_2
  clear P5 F6 R5 R5W D5 D5W cX
  have hAll : ∀ g, g < w6.heap.size → g < w6.heap.size := fun g h => h
  obtain ⟨FF, hFF⟩ := T6
  have cF := flat_c FF o.t (fun q => q < w6.heap.size) (.slice none 0 0) (.pointer (some ⟨q6, 0, none⟩)) [] [] w6.heap.size w6 (hFF.to (Same.below (Below.refl _ _)) fun g _ h => h) OwnN.nil (Nat.le_refl _) (fun q h => h) (fun q _ h => by cases h) (by have := hz.out; simp only [List.length_nil]; omega)
  replace cF := Lib.hid cF
  clear hFF hAll
  have d6f_0 := D6W.frz 0 (by omega); have d6f_1 := D6W.frz 1 (by omega); obtain ⟨d6_0, d6_1⟩ := D6.box2; have hsD6 := World.block_lt_of_cell? _ _ d6_0; dsimp only at hsD6
  go_upto_region 11 with fail
  go_upto_region 12 with (go_at_call 118; (with_reducible refine (cF.out).mono ?_); rintro e w7 ⟨v7, pss, rfl, N7⟩; obtain ⟨va, vc, rfl⟩ := N7.own.form; have k7 : Kept (fun q => (Value.slice none 0 0).ownBlock = some q) w6 w7 := N7.kept; have R7 := R6.kept k7 (fun h => by cases h); have R7W := R6W.kept k7 (fun h => by cases h); have D7 := D6.kept k7 (fun h => by cases h); have D7W := D6W.kept k7 (fun h => by cases h); have d7f_0 := D7W.frz 0 (by omega); have d7f_1 := D7W.frz 1 (by omega); obtain ⟨d7_0, d7_1⟩ := D7.box2; have hsD7 := World.block_lt_of_cell? _ _ d7_0; dsimp only at hsD7)
  have O7 : OwnN w6.heap.size w7 (.slice va (layE 0 o.t).length vc) pss (layE 0 o.t) := N7.own
  have hb67 := N7.below
  have hz7 := hb67.size
  have hw7 := hw6.trans (hb67.mono hw6.size)
  have hlen : (layE 0 o.t).length = szE o.t := layE_len _ _
  replace O7 := Lib.hid O7
  clear N7 k7 cF d6_0 d6_1 d6f_0 d6f_1 hsD6 p_0 p_1 p_2 p_3 p_4 p_5 p_6 P6 R6 R6W D6 D6W
  have K8 : Kept (· = ob) w7 (w7.setCell ⟨ob, 1, none⟩ (.slice va (layE 0 o.t).length vc)) := (Kept.refl (· = ob) w7).set (p := ⟨ob, 1, none⟩) rfl _
  have O8 := O7.out.kept K8 (fun g hg e => by have := O7.out.lo g hg; omega)
  have R8 := R7.kept K8 hrbw
  have R8W := R7W.kept K8 hrbw
  have D8 : RowAt (w7.setCell ⟨ob, 1, none⟩ (.slice va (layE 0 o.t).length vc)) ob 0 [.slice ya 0 0, .slice va (layE 0 o.t).length vc] := D7.putAt (j := 1) (by simp) _
  have hw8 := hw7.setCell (p := ⟨ob, 1, none⟩) hwo (.slice va (layE 0 o.t).length vc)
  have hz8 : (w7.setCell ⟨ob, 1, none⟩ (.slice va (layE 0 o.t).length vc)).heap.size = w7.heap.size := by simp [World.setCell]
  generalize w7.setCell ⟨ob, 1, none⟩ (.slice va (layE 0 o.t).length vc) = w8 at *
  clear d7_0 d7_1 d7f_0 d7f_1 hsD7 D7 D7W R7 R7W K8 O7
  have cM := tooMany_c (layE 0 o.t) (by rw [hlen]; exact hz.out) hp.out ya 0 _ w6.heap.size w8 O8.readsP
  have O8' := O8.lowerP hw6.size
  generalize (layE 0 o.t).length = nn at *
  replace cM := Lib.hid cM; replace O8' := Lib.hid O8'; replace hlen := Lib.hid hlen
  have hsub : w6.heap.size ≤ w8.heap.size := by omega
  have hnb : ∀ g ∈ fpO (.slice va nn vc) pss, g ≠ rb := fun g hg e => by have := O8.lo g hg; omega
  replace hnb := Lib.hid hnb
  clear O8
  obtain ⟨d8_0, d8_1⟩ := D8.box2; have hsD8 := World.block_lt_of_cell? _ _ d8_0; dsimp only at hsD8
  go_upto_region 14 with (go_at_call 119; (with_reducible refine (cM.out).mono ?_); rintro e w9 ⟨rfl, hb9⟩; have D9 := D8.below hb9)
  have R9 := R8.below hb9
  have R9W := R8W.below hb9
  have O9 := O8'.out.below hb9
  have hw9 := hw8.trans (hb9.mono hw8.size)
  replace O9 := Lib.hid O9
  clear d8_0 d8_1 hsD8 D8 R8 R8W O8' hb9 cM
  obtain ⟨d9_0, d9_1⟩ := D9.box2; have hsD9 := World.block_lt_of_cell? _ _ d9_0; dsimp only at hsD9; have r9f_0 := R9W.frz 0 (by omega); have r9f_1 := R9W.frz 1 (by omega); obtain ⟨r9_0, r9_1⟩ := R9.box2; have hsR9 := World.block_lt_of_cell? _ _ r9_0; dsimp only at hsR9
  go_wp2_with fail
  refine bodyPost_ret (ret_parse (a := 2) (b := 3) (c := 4) Tryz.results89 rfl rfl rfl (row2q R9 (.slice ya 0 0) (.slice va nn vc))) rfl ?_
  have K : Kept (· = rb) w9 ((w9.setCell ⟨rb, 0, none⟩ (.slice ya 0 0)).setCell ⟨rb, 1, none⟩ (.slice va nn vc)) := ((Kept.refl (fun b => b = rb) w9).set (p := ⟨rb, 0, none⟩) rfl _).set (p := ⟨rb, 1, none⟩) rfl _
  have hrl : w.heap.size ≤ rb := by have := hrb.out; omega
  exact hpost.out _ ya _ pss (O9.out.kept K (fun g hg e => hnb.out g hg e)) ((hw9.setCell (p := ⟨rb, 0, none⟩) hrl _).setCell (p := ⟨rb, 1, none⟩) hrl _)
end Go.Proofs.YtaimekaagmcmnaaGreat

/- A program's tree grown anew: laid trees, the node while it grows; names that are free. Plain. -/
namespace Go.Proofs.YtaimekaagmcmnaaGreat
open Go.RowKit
set_option linter.unusedVariables false
set_option linter.unusedSimpArgs false

def Laid (N : List GNode) (a : Nat) (t : ExT) : Prop := ∀ (j : Nat) x, (layE a t)[j]? = some x → N[a + j]? = some x
theorem Laid.head {N : List GNode} {a : Nat} {kd at_ n : Int} {s : ByteArray} {ks : List ExT} {ps : List GPat} (h : Laid N a (.mk kd at_ n s ks ps)) : N[a]? = some ⟨kd, at_, n, s, plE (a + 1) ks, ps⟩ := h 0 _ (by rw [layE_mk]; rfl)
theorem getElem?_mid {α : Type} (l m r : List α) (j : Nat) (x : α) (h : m[j]? = some x) : (l ++ (m ++ r))[l.length + j]? = some x := by
  rw [List.getElem?_append_right (by omega), show l.length + j - l.length = j by omega, List.getElem?_append_left (List.getElem?_eq_some_iff.1 h).1, h]
theorem list_mid {α : Type} {l : List α} {j : Nat} {k : α} (h : l[j]? = some k) : l = l.take j ++ k :: l.drop (j + 1) := by
  obtain ⟨hj, rfl⟩ := List.getElem?_eq_some_iff.1 h
  rw [← List.drop_eq_getElem_cons hj, List.take_append_drop]
theorem Laid.kid {N : List GNode} {a : Nat} {kd at_ n : Int} {s : ByteArray} {ks : List ExT} {ps : List GPat} (h : Laid N a (.mk kd at_ n s ks ps)) {j : Nat} {k : ExT} (hk : ks[j]? = some k) :
    Laid N (a + 1 + szEs (ks.take j)) k ∧ (plE (a + 1) ks)[j]? = some ((a + 1 + szEs (ks.take j) : Nat) : Int) := by
  have hj := (List.getElem?_eq_some_iff.1 hk).1
  have hmid := list_mid hk
  have hlt : (ks.take j).length = j := by rw [List.length_take]; omega
  generalize ks.take j = l1 at *
  generalize ks.drop (j + 1) = l2 at *
  subst hmid
  constructor
  · intro i x hx
    have := h (1 + (szEs l1 + i)) x (by
      rw [layE_mk, layEs_append, layEs, Nat.add_comm 1, List.getElem?_cons_succ]
      have := getElem?_mid (layEs (a + 1) l1) (layE (a + 1 + szEs l1) k) (layEs (a + 1 + szEs l1 + szE k) l2) i x hx
      rw [layEs_len] at this
      exact this)
    rw [show a + 1 + szEs l1 + i = a + (1 + (szEs l1 + i)) by omega]
    exact this
  · rw [plE_append, plE, List.getElem?_append_right (by rw [plE_len]; omega), plE_len, hlt, Nat.sub_self]
    rfl
structure GB (lo q : Nat) (kd at_ nn : Int) (s : ByteArray) (w : World) (kv pv : Value) (vs : List Value) (bs : List Nat) (kids : List ExT) (pats : List GPat) : Prop where
  hq : lo ≤ q
  row : RowAt w q 0 [.int .i64 kd, .int .i64 at_, .int .i64 nn, .string s, kv, pv]
  wr : Wr w q 0 6
  kown : w.ownsRow lo 127 1 kv kids.length vs
  pown : SlO 83 1 GPat.O bs w pv pats
  kq : kv.ownBlock ≠ some q
  pb : ∀ g ∈ bs, lo ≤ g ∧ g ≠ q
  kb : ∀ g, kv.ownBlock = some g → g ∉ bs
  tr : ∀ (i : Nat) p t, vs[i]? = some p → kids[i]? = some t → ∃ F, ExR F (fun g => lo ≤ g ∧ g ≠ q ∧ kv.ownBlock ≠ some g) w p t
theorem GB.lt {lo q : Nat} {kd at_ nn : Int} {s : ByteArray} {kv pv : Value} {w : World} {vs : List Value} {bs : List Nat} {kids : List ExT} {pats : List GPat} (h : GB lo q kd at_ nn s w kv pv vs bs kids pats) : q < w.heap.size := World.block_lt_of_cell? _ _ (h.row 0 _ rfl)
theorem GB.below {lo q : Nat} {kd at_ nn : Int} {s : ByteArray} {kv pv : Value} {w w' : World} {vs : List Value} {bs : List Nat} {kids : List ExT} {pats : List GPat} (h : GB lo q kd at_ nn s w kv pv vs bs kids pats) (hb : Below w.heap.size w w') : GB lo q kd at_ nn s w' kv pv vs bs kids pats :=
  ⟨h.hq, h.row.below hb, h.wr.below hb, own_below h.kown hb, h.pown.below GPat.ok hb, h.kq, h.pb, h.kb, fun i p t hp ht => let ⟨F, hF⟩ := h.tr i p t hp ht; ⟨F, hF.below hb⟩⟩
theorem GB.start {w w1 : World} {q lo : Nat} {kd at_ nn : Int} {s : ByteArray} {pv : Value} {bs : List Nat} {pats : List GPat} (hp : SlO 83 1 GPat.O bs w pv pats) (hb : ∀ g ∈ bs, lo ≤ g) (hl : lo ≤ w.heap.size) (hq : q = w.heap.size)
    (hW : w1 = w.alloc (.cells #[.int .i64 kd, .int .i64 at_, .int .i64 nn, .string s, .slice none 0 0, pv] 167)) : GB lo q kd at_ nn s w1 (.slice none 0 0) pv [] bs [] pats := by
  subst hq
  have hb1 : Below w.heap.size w w1 := by rw [hW]; go_grown
  refine ⟨hl, by rw [hW]; exact RowAt.box w #[_, _, _, _, _, _] _, by rw [hW]; exact Wr.box w #[_, _, _, _, _, _] _, own_none, hp.below GPat.ok hb1, by simp [Value.ownBlock], fun g hg => ⟨hb g hg, ?_⟩, fun g h => by simp [Value.ownBlock] at h, fun i p t h => by simp at h⟩
  have := hp.lt GPat.ok g hg
  omega
theorem GB.done {lo q : Nat} {kd at_ nn : Int} {s : ByteArray} {kv pv : Value} {w : World} {vs : List Value} {bs : List Nat} {kids : List ExT} {pats : List GPat} (h : GB lo q kd at_ nn s w kv pv vs bs kids pats) (hwf : (ExT.mk kd at_ nn s kids pats).wf) (hp : PatsSm pats) :
    ∃ F, ExR F (fun g => lo ≤ g) w (.pointer (some ⟨q, 0, none⟩)) (.mk kd at_ nn s kids pats) := by
  have hlen : vs.length = kids.length := by have := h.kown.1; omega
  obtain ⟨F, hF⟩ : ∃ F, ∀ (i : Nat) p t, vs[i]? = some p → kids[i]? = some t → ExR F (fun g => lo ≤ g) w p t := exRs_up vs kids hlen fun i p t hp ht => by
    obtain ⟨F, hF⟩ := h.tr i p t hp ht
    exact ⟨F, hF.to (Same.below (Below.refl _ _)) fun g h1 _ => h1.1⟩
  obtain ⟨ka, kc, hv⟩ := own_form h.kown
  have hcap : kids.length ≤ kc ∧ kc ≤ 9223372036854775807 ∧ (0 < kids.length → ∃ g, ka = some ⟨g, 0, none⟩ ∧ lo ≤ g ∧ RowAt w g 0 vs) := by
    by_cases hk : 0 < kids.length
    · obtain ⟨g, cap, hv2, h1, h2, h3, h4, h5, h6⟩ := own_cells h.kown hk
      rw [hv] at hv2
      obtain ⟨rfl, rfl⟩ : ka = some ⟨g, 0, none⟩ ∧ kc = cap := by injection hv2 with e1 e2 e3; exact ⟨e1, e3⟩
      exact ⟨h3, h4, fun _ => ⟨g, rfl, h1, h5⟩⟩
    · have h0 : kids.length = 0 := by omega
      rcases h.kown.2 with ⟨e, _⟩ | ⟨g, cap, cur, e, h1, h2, h3, h4, h5⟩
      · rw [hv] at e
        injection e with e1 e2 e3
        exact ⟨by omega, by omega, fun h => absurd h hk⟩
      · rw [hv] at e
        injection e with e1 e2 e3
        exact ⟨by omega, by unfold maxLen at h4; omega, fun h => absurd h hk⟩
  obtain ⟨c1, c2, c3⟩ := hcap
  have hrow := h.row
  rw [hv] at hrow
  refine ⟨F + 1, q, ka, kc, pv, bs, rfl, h.hq, hwf, hp, hrow, h.pown, fun g hg => (h.pb g hg).1, c1, c2, fun hk => ?_⟩
  obtain ⟨g, rfl, hg, hr⟩ := c3 hk
  refine ⟨g, 0, rfl, hg, fun i k hi => ?_⟩
  obtain ⟨p, hp⟩ : ∃ p, vs[i]? = some p := ⟨_, List.getElem?_eq_getElem (by rw [hlen]; exact (List.getElem?_eq_some_iff.1 hi).1)⟩
  exact ⟨p, hr i p hp, hF i p k hp hi⟩
theorem GB.addKid {lo q n g cap : Nat} {kd at_ nn : Int} {s : ByteArray} {w w1 w2 W : World} {pv p kv' : Value} {va : Option Addr} {vc : Nat} {vs : List Value} {bs : List Nat} {kids : List ExT} {pats : List GPat} {t : ExT}
    (h : GB lo q kd at_ nn s w (.slice va n vc) pv vs bs kids pats) (hn : n = kids.length)
    (hT : ∃ F, ExR F (fun g => lo ≤ g ∧ g ≠ q ∧ (Value.slice va n vc).ownBlock ≠ some g) w p t)
    (hB : Below w.heap.size w w1) (hgrow : w1.grownBy w2 (Value.slice va n vc).ownBlock) (hown : w2.ownsRow lo 127 1 (.slice (some ⟨g, 0, none⟩) (n + 1) cap) (n + 1) (vs ++ [p]))
    (hat : (Value.slice va n vc).ownBlock = some g ∨ g = w1.heap.size) (hp' : kv' = .slice (some ⟨g, 0, none⟩) (n + 1) cap) (hW : W = w2.setCell ⟨q, 4, none⟩ kv') :
    GB lo q kd at_ nn s W kv' pv (vs ++ [p]) bs (kids ++ [t]) pats ∧ (lo ≤ w.heap.size → Below lo w W) := by
  subst hp' hW
  have hob := own_base h.kown
  have hsz := hB.size
  have hlt := h.lt
  have hwq := h.hq
  have K6 := kept_of hgrow hB
  have hqo : ∀ g', (Value.slice va n vc).ownBlock = some g' → g' ≠ q := fun g' hg e => h.kq (e ▸ hg)
  have KS : Kept (fun k => k = q ∨ (Value.slice va n vc).ownBlock = some k) w (w2.setCell ⟨q, 4, none⟩ (.slice (some ⟨g, 0, none⟩) (n + 1) cap)) :=
    Kept.set (p := ⟨q, 4, none⟩) (fun k h1 h2 => K6 k h1 (fun e => h2 (.inr e.symm))) (.inl rfl) _
  have hgq : g ≠ q := by rcases hat with e | e; exact hqo g e; omega
  have hnq : ¬ some q = (Value.slice va n vc).ownBlock := fun e => hqo q e.symm rfl
  have hto : ∀ {F' : Nat} {p : Value} {t : ExT}, ExR F' (fun g => lo ≤ g ∧ g ≠ q ∧ (Value.slice va n vc).ownBlock ≠ some g) w p t →
      ExR F' (fun g' => lo ≤ g' ∧ g' ≠ q ∧ (Value.slice (some ⟨g, 0, none⟩) (n + 1) cap).ownBlock ≠ some g') (w2.setCell ⟨q, 4, none⟩ (.slice (some ⟨g, 0, none⟩) (n + 1) cap)) p t := fun hF' => by
    refine hF'.to (fun g' h1 h2 => KS g' h2 fun e => ?_) fun g' h1 h2 => ⟨h1.1, h1.2.1, fun e => ?_⟩
    · rcases e with e | e
      · exact h1.2.1 e
      · exact h1.2.2 e
    · obtain rfl : g = g' := by simpa [Value.ownBlock] using e
      rcases hat with e2 | e2
      · exact h1.2.2 e2
      · omega
  refine ⟨⟨h.hq, (h.row.kept K6 hnq).putAt (j := 4) (by simp) _, (h.wr.kept K6 hnq).set 4 _, ?_, h.pown.kept GPat.ok KS (fun g' hg' e => ?_), ?_, h.pb, ?_, ?_⟩, fun hl => ?_⟩
  · rw [List.length_append, ← hn]
    exact own_kept hown ((Kept.refl (· = q) w2).set (p := ⟨q, 4, none⟩) rfl _) (fun g' hg' e => by
      obtain rfl : g = g' := by simpa [Value.ownBlock] using hg'
      exact hgq e)
  · rcases e with e | e
    · exact (h.pb g' hg').2 e
    · exact h.kb g' e hg'
  · intro e; exact hgq (by simpa [Value.ownBlock] using e)
  · intro g' hg' hm
    obtain rfl : g = g' := by simpa [Value.ownBlock] using hg'
    rcases hat with e2 | e2
    · exact h.kb g e2 hm
    · have := h.pown.lt GPat.ok g hm; omega
  · intro j p' t' hp ht
    have hvl : vs.length = kids.length := by have := h.kown.1; omega
    rcases Nat.lt_or_ge j vs.length with hj | hj
    · rw [List.getElem?_append_left hj] at hp
      rw [List.getElem?_append_left (by omega)] at ht
      obtain ⟨F', hF'⟩ := h.tr j p' t' hp ht
      exact ⟨F', hto hF'⟩
    · rw [List.getElem?_append_right hj] at hp
      rw [List.getElem?_append_right (by omega)] at ht
      obtain ⟨F', hF'⟩ := hT
      cases hjj : j - vs.length with
      | zero =>
        rw [hjj] at hp
        rw [show j - kids.length = 0 by omega] at ht
        simp at hp ht; subst hp ht
        exact ⟨F', hto hF'⟩
      | succ m => rw [hjj] at hp; simp at hp
  · exact (below_grown2 (wr := w) (base := lo) hgrow hB (Below.refl _ w) hl h.kown).setCell (p := ⟨q, 4, none⟩) h.hq _
end Go.Proofs.YtaimekaagmcmnaaGreat

/- The program's patNames and binds. -/
namespace Go.Proofs.YtaimekaagmcmnaaGreat
open Go.RowKit
set_option linter.unusedVariables false
set_option linter.unusedSimpArgs false
attribute [local go_sem] Ext.cell

theorem info_strN : (Tryz.prog.info? 9).map (fun i => (i.zero, i.size, i.bytes)) = some (some (.string ⟨#[]⟩), 1, 16) := by kernel_rfl
def pnamesL (l : List GPNode) : List ByteArray := (l.filter fun x => x.kind == 2).map (·.s)
def pnames (q : GPat) : List ByteArray := pnamesL q.nodes
theorem pnamesL_snoc (l : List GPNode) (x : GPNode) : pnamesL (l ++ [x]) = pnamesL l ++ (if x.kind = 2 then [x.s] else []) := by
  unfold pnamesL
  rw [List.filter_append, List.map_append]
  congr 1
  by_cases h : x.kind = 2
  · rw [if_pos h, List.filter_cons_of_pos (by simp [h])]; rfl
  · rw [if_neg h, List.filter_cons_of_neg (by simp [h])]; rfl
theorem pnamesL_len (l : List GPNode) : (pnamesL l).length ≤ l.length := by
  unfold pnamesL
  rw [List.length_map]
  exact List.length_filter_le _ _

set_option maxRecDepth 100000 in
set_option maxHeartbeats 8000000 in
theorem patNames_c (q : GPat) (hq : q.nodes.length ≤ 600) (r : List Value) (lo : Nat) (w : World) (hr : GPat.R lo w r q) :
    Calls Tryz.prog 147 #[.agg r.toArray] w fun e w' => ∃ v, e = .returned v ∧ OwnF 9 1 strRow StrOk w.heap.size w' v (pnames q) ∧ Below w.heap.size w w' := by
  obtain ⟨u0, rfl, _, hS⟩ := hr
  obtain ⟨N⟩ := q
  dsimp only at hS hq
  obtain ⟨na, nc, rfl, ul, um, h0⟩ := hS
  obtain ⟨n, hn⟩ : ∃ n, n = N.length := ⟨_, rfl⟩
  rw [← hn] at ul hq ⊢
  have hkk : ∀ W, Below w.heap.size w W → SlAt GPNode.R 4 lo W na N := fun W hW => h0.below GPNode.good hW
  have hpost : ∀ W v, OwnF 9 1 strRow StrOk w.heap.size W v (pnames ⟨N⟩) → Below w.heap.size w W → ∃ v', (Ending.returned v) = .returned v' ∧ OwnF 9 1 strRow StrOk w.heap.size W v' (pnames ⟨N⟩) ∧ Below w.heap.size w W := fun W v h1 h2 => ⟨v, rfl, h1, h2⟩
  clear h0
  replace hn := Lib.hid hn; replace hkk := Lib.hid hkk; replace hpost := Lib.hid hpost
  obtain ⟨iJ, hi0, hz0, hz1, hz2⟩ := info_parts info_strN; have IJ := Lib.hid hi0; have IJ0 := Lib.hid hz0; have IJ1 := Lib.hid hz1; have IJ2 := Lib.hid hz2; clear hi0 hz0 hz1 hz2
  show Calls Tryz.prog 147 #[.agg #[.slice na n nc]] w _
  go_enter Tryz.func147, Tryz.ntmps147
  go_upto_region 1 with fail
  obtain ⟨w1, hW1⟩ : ∃ W, W = w.alloc (.cells #[.slice na n nc] 83) := ⟨_, rfl⟩
  rw [← hW1]
  have hb1 : Below w.heap.size w w1 := by rw [hW1]; go_grown
  have B1 : RowAt w1 w.heap.size 0 [.slice na n nc] := by rw [hW1]; exact RowAt.box w #[_] _
  have hs1 : w1.heap.size = w.heap.size + 1 := by rw [hW1]; simp
  clear hW1
  go_upto_region 2 with fail
  obtain ⟨w2, hW2⟩ : ∃ W, W = w1.alloc (.cells #[] 9) := ⟨_, rfl⟩
  rw [← hW2]
  have hb2 : Below w1.heap.size w1 w2 := by rw [hW2]; go_grown
  have O2 : OwnF 9 1 strRow StrOk w.heap.size w2 (.slice (some ⟨w1.heap.size, 0, none⟩) 0 0) [] := ⟨own_empty_at (by rw [hW2]; exact heap_alloc_new' _ _ _ (by simp)) (by omega), fun x h => by cases h⟩
  have hz2 : w2.heap.size = w1.heap.size + 1 := by rw [hW2]; simp
  have B2 := B1.below hb2
  have hw := hb1.trans (hb2.mono (by omega))
  clear hW2 B1 hb1 hb2
  have b2_0 := B2.box1; have hsB2 := World.block_lt_of_cell? _ _ b2_0; dsimp only at hsB2
  go_upto_region 3 with fail
  go_loopw [3, 10] (fun nv ii wr => ∃ k : Nat, k ≤ n ∧ ii = .int .i64 k ∧ Hid (OwnF 9 1 strRow StrOk w.heap.size wr nv (pnamesL (N.take k))) ∧ Below w.heap.size w wr) (fun _ ii _ => n - (intOf ii).toNat)
  case atStart => rw [hs1] at O2; exact ⟨0, by omega, rfl, by simpa [pnamesL] using Lib.hid O2, hw⟩
  case round =>
    clear O2 hw B2 b2_0 hsB2 hz2 hs1
    obtain ⟨k, hk, rfl, O, hw⟩ := hrel
    have hsz := hw.size
    by_cases hlt : k < n
    · obtain ⟨b1, o1, x, r, _, rfl, P1, hx, r1⟩ := (hkk.out _ hw).get hn.out hlt
      have htk : N.take (k + 1) = N.take k ++ [x] := by rw [List.take_add_one, P1.out]; rfl
      have hpn := pnamesL_snoc (N.take k) x
      rw [← htk] at hpn
      obtain ⟨v0, rfl, hwf, hk0⟩ := hx
      obtain ⟨ka, kc, rfl⟩ := hk0.form
      obtain ⟨kd, nn, s, ks⟩ := x
      dsimp only at *
      have hss : StrOk s := hwf.2.2
      obtain ⟨e_0, e_1, e_2, e_3⟩ := r1.cells4
      have hbb1 := World.block_lt_of_cell? _ _ e_0; dsimp only at hbb1
      clear hk0 r1 hwf P1
      generalize ks.length = kn at *
      have hkb : (pnamesL (N.take k)).length ≤ 600 := by
        have h1 := pnamesL_len (N.take k)
        rw [List.length_take] at h1
        omega
      generalize hl : pnamesL (N.take k) = l at *
      generalize hl2 : pnamesL (N.take (k + 1)) = l2 at *
      obtain ⟨va, vc, rfl⟩ := O.out.form
      obtain ⟨vn, hvn⟩ : ∃ x, x = l.length := ⟨_, rfl⟩
      have hown := O.out.1
      have hOw := Lib.hid O.out.2
      rw [← hvn] at hown hkb ⊢
      have hob := own_base hown
      replace hl := Lib.hid hl; replace hl2 := Lib.hid hl2; replace hpn := Lib.hid hpn; replace htk := Lib.hid htk; replace hvn := Lib.hid hvn
      by_cases h2 : kd = 2
      · subst h2
        go_upto_region 6 with fail
        obtain ⟨w4, hW4⟩ : ∃ W, W = wr.alloc (.cells #[.int .i64 2, .int .i64 nn, .string s, .slice ka kn kc] 111) := ⟨_, rfl⟩
        rw [← hW4]
        have hb4 : Below wr.heap.size wr w4 := by rw [hW4]; go_grown
        have E4 : RowAt w4 wr.heap.size 0 [.int .i64 2, .int .i64 nn, .string s, .slice ka kn kc] := by rw [hW4]; exact RowAt.box wr #[_, _, _, _] _
        have hown4 := own_below hown hb4
        have hw4 := hw.trans (hb4.mono hsz)
        have hz4 := hw4.size
        clear hW4 e_0 e_1 e_2 e_3 hb4 O
        obtain ⟨e4_0, e4_1, e4_2, e4_3⟩ := E4.box4; have hsE4 := World.block_lt_of_cell? _ _ e4_0; dsimp only at hsE4
        replace hown4 := Lib.hid hown4
        go_wp2_with (at_builtin; refine wpList_append_lies _ rfl _ _ _ rfl (w.heap.size) 9 iJ _ 1 16 Tryz.underlying27 IJ.out IJ0.out IJ1.out IJ2.out rfl (by omega) (.slice va vn vc) (vn) (rowsOf strRow l) rfl (own_below hown4.out (by go_grown)) ⟨w4.heap.size, 0, none⟩ 1 1 [.string s] rfl rfl (World.news_of_block (cs := #[.string s]) (t := 9) (fr := (0, 0)) (heap_alloc_new' _ _ _ (by simp))) (by intro u hu; simp at hu; (first | (subst hu; rfl) | (rcases hu with rfl | rfl | rfl | rfl <;> rfl) | (rcases hu with rfl | rfl | rfl | rfl | rfl | rfl <;> rfl) | (rcases hu with rfl | rfl | rfl | rfl | rfl | rfl | rfl <;> rfl) | (rcases hu with rfl | rfl | rfl | rfl | rfl | rfl | rfl | rfl | rfl <;> rfl))) (by omega) (by unfold maxLen; omega) (by omega) (by simp; omega) _ rfl ?_; intro g2 cap2 w6 hown6 hgrow hat hlt2)
        have hB6 : Below w.heap.size w w6 := below_grown2 (wr := w4) (base := w.heap.size) hgrow (by go_grown) hw4 hz4 hown4.out
        go_roundw
        case rel =>
          refine ⟨k + 1, by omega, by go_num, Lib.hid ⟨?_, fun y hy => ?_⟩, hB6⟩
          · rw [hl2.out, hpn.out, if_pos rfl, List.length_append, ← hvn.out, rowsOf_append, rowsOf_one]
            exact hown6
          · rw [hl2.out, hpn.out, if_pos rfl] at hy
            rcases List.mem_append.1 hy with h | h
            · exact hOw.out y h
            · simp only [List.mem_singleton] at h; rw [h]; exact hss
        case measure => simp [intOf]; omega
      · have d2 : (kd == 2) = false := beq_eq_false_iff_ne.2 h2
        go_wp2_with fail
        go_roundw
        case rel =>
          rw [hvn.out]
          have hb4 : Below wr.heap.size wr (wr.alloc (.cells #[.int .i64 kd, .int .i64 nn, .string s, .slice ka kn kc] 111)) := by go_grown
          refine ⟨k + 1, by omega, by go_num, Lib.hid ?_, hw.trans (Below.mono (by go_grown) hsz)⟩
          rw [hl2.out, hpn.out, if_neg h2, List.append_nil]
          exact O.out.below (by go_grown)
        case measure => simp [intOf]; omega
    · obtain rfl : k = n := by omega
      rw [List.take_of_length_le (by have := hn.out; omega)] at O
      go_wp2_with fail
      go_returns
      exact hpost.out _ _ O.out hw
end Go.Proofs.YtaimekaagmcmnaaGreat
