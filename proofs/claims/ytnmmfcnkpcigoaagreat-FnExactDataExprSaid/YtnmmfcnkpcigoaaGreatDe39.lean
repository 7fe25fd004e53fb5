/- Parts of the proof, merged: Dx5. -/
import Derived.Test.YtnmmfcnkpcigoaaGreatDe38
/- impl.copyTypes of none, impl.programOf, impl.DataExpr: their walks. -/
namespace Go.Proofs.YtnmmfcnkpcigoaaGreat
open Go.RowKit
set_option linter.unusedVariables false
set_option linter.unusedSimpArgs false
attribute [local go_sem] Ext.cell

set_option maxRecDepth 100000 in
set_option maxHeartbeats 4000000 in
theorem copyTypes_nil (w : World) : Calls Tryz.prog 49 #[.slice none 0 0] w fun e w' => (∃ a, e = .returned (.slice a 0 0)) ∧ Below w.heap.size w w' := by
  go_enter Tryz.func49, Tryz.ntmps49
  go_wp2_with fail
  go_loopw [3, 11] (fun vv ii wr => (∃ a, vv = .slice a 0 0) ∧ ii = .int .i64 0 ∧ Below w.heap.size w wr) (fun _ _ _ => 0)
  case atStart => exact ⟨⟨_, rfl⟩, rfl, by go_grown⟩
  case round =>
    obtain ⟨⟨a, rfl⟩, rfl, hw0⟩ := hrel
    go_wp2_with fail
    go_returns
    exact ⟨⟨_, rfl⟩, hw0⟩
theorem ret_prog {fn : Func} {tmps : Array Value} {a g : Nat} {v0 v1 : Value} {w : World} (hf : fn.results = #[.cell a 29]) (hp : tmps.getD a undef = .pointer (some ⟨g, 0, none⟩)) (h : RowAt w g 0 [v0, v1]) :
    (results fn tmps).run Tryz.prog w = .ok (.agg #[v0, v1]) w := by
  have hp' : tmps[a]?.getD undef = .pointer (some ⟨g, 0, none⟩) := by simpa using hp
  obtain ⟨h0, h1⟩ := h.box2
  simp [results, hf, go_sem, hp', h0, h1]
theorem ret_prog_tmp {fn : Func} {tmps : Array Value} {a b g : Nat} {v0 v1 u : Value} {w : World} (hf : fn.results = #[.cell a 29, .tmp b]) (hp : tmps.getD a undef = .pointer (some ⟨g, 0, none⟩)) (hb : tmps.getD b undef = u) (h : RowAt w g 0 [v0, v1]) :
    (results fn tmps).run Tryz.prog w = .ok (.tuple #[.agg #[v0, v1], u]) w := by
  have hp' : tmps[a]?.getD undef = .pointer (some ⟨g, 0, none⟩) := by simpa using hp
  have hb' : tmps[b]?.getD undef = u := by simpa using hb
  obtain ⟨h0, h1⟩ := h.box2
  simp [results, hf, go_sem, hp', hb', h0, h1]
theorem row2 {w : World} {b : Nat} {a0 a1 : Value} (h : RowAt w b 0 [a0, a1]) (v0 v1 : Value) : RowAt ((w.setCell ⟨b, 0, none⟩ v0).setCell ⟨b, 1, none⟩ v1) b 0 [v0, v1] :=
  (h.putAt (j := 0) (by simp) v0).putAt (j := 1) (by simp) v1
set_option maxRecDepth 100000 in
set_option maxHeartbeats 4000000 in
theorem programOf_nil (f : Nat) (t : ExT) (A : Nat → Prop) (pv : Value) (w : World) (h : ExR f A w pv t) (hA : ∀ q, A q → q < w.heap.size) (hsz : szE t ≤ 16777216) :
    Calls Tryz.prog 22 #[.slice none 0 0, pv] w fun e w' => ∃ a v pss, e = .returned (.agg #[.slice a 0 0, v]) ∧ OwnN w.heap.size w' v pss (layE 0 t) ∧ Below w.heap.size w w' := by
  have cF := fun W (hW : Below w.heap.size w W) => flat_c f t A (.slice none 0 0) pv [] [] w.heap.size W (h.below hW) OwnN.nil hW.size (fun q hq => Nat.lt_of_lt_of_le (hA q hq) hW.size) (fun q _ h => by cases h) (by simpa using hsz)
  replace cF := Lib.hid cF
  go_enter Tryz.func22, Tryz.ntmps22
  go_upto_region 1 with fail
  obtain ⟨w0, hW0⟩ : ∃ W, W = w.alloc (.cells #[.slice none 0 0, .slice none 0 0] 29) := ⟨_, rfl⟩
  rw [← hW0]
  have hw : Below w.heap.size w w0 := by rw [hW0]; go_grown
  have hW0s : w0.heap.size = w.heap.size + 1 := by rw [hW0]; simp
  have R : RowAt w0 w.heap.size 0 [.slice none 0 0, .slice none 0 0] := by rw [hW0]; exact RowAt.box w #[_, _] _
  have RW : Wr w0 w.heap.size 0 2 := by rw [hW0]; exact Wr.box w #[_, _] _
  clear hW0
  have rf_0 := RW.frz 0 (by omega); have rf_1 := RW.frz 1 (by omega); obtain ⟨r_0, r_1⟩ := R.box2; have hsR := World.block_lt_of_cell? _ _ r_0; dsimp only at hsR
  go_upto_region 2 with (go_at_call 48; (with_reducible refine (cF.out _ hw).mono ?_); rintro e w1 ⟨v, pss, rfl, N1⟩; obtain ⟨va, vc, rfl⟩ := N1.own.form)
  have k1 : Kept (fun q => (Value.slice none 0 0).ownBlock = some q) w0 w1 := N1.kept
  have R1 := R.kept k1 (fun h => by cases h)
  have R1W := RW.kept k1 (fun h => by cases h)
  have hw1 := hw.trans N1.below
  have hz0 : w0.heap.size = w.heap.size + 1 := hW0s
  have hz1 := N1.below.size
  have hnew : ∀ b ∈ fpO (.slice va (layE 0 t).length vc) pss, w.heap.size + 1 ≤ b := fun b hb => by
    rcases N1.new b hb with h1 | h1
    · simp [fpO, Value.ownBlock] at h1
    · omega
  have O1 : OwnN w.heap.size w1 (.slice va (layE 0 t).length vc) pss (layE 0 t) := N1.own
  replace O1 := Lib.hid O1; replace hnew := Lib.hid hnew
  clear r_0 r_1 rf_0 rf_1 hsR N1 k1
  generalize hl : (layE 0 t).length = n at *
  replace hl := Lib.hid hl
  have r1f_0 := R1W.frz 0 (by omega); have r1f_1 := R1W.frz 1 (by omega); obtain ⟨r1_0, r1_1⟩ := R1.box2; have hsR1 := World.block_lt_of_cell? _ _ r1_0; dsimp only at hsR1
  go_wp2_with (go_at_call 49; (with_reducible refine (copyTypes_nil w1).mono ?_); rintro e w2 ⟨⟨a, rfl⟩, hb2⟩; have R2 := R1.below hb2; have R2W := R1W.below hb2; have hw2 := hw1.trans (hb2.mono hw1.size); have r2f_0 := R2W.frz 0 (by omega); have r2f_1 := R2W.frz 1 (by omega); obtain ⟨r2_0, r2_1⟩ := R2.box2; have hsR2 := World.block_lt_of_cell? _ _ r2_0; dsimp only at hsR2)
  refine bodyPost_ret (ret_prog (a := 4) Tryz.results22 rfl (row2 R2 (.slice a 0 0) (.slice va n vc))) rfl ?_
  have K : Kept (· = w.heap.size) w2 ((w2.setCell ⟨w.heap.size, 0, none⟩ (.slice a 0 0)).setCell ⟨w.heap.size, 0 + 1, none⟩ (.slice va n vc)) := ((Kept.refl (fun b => b = w.heap.size) w2).set (p := ⟨w.heap.size, 0, none⟩) rfl _).set (p := ⟨w.heap.size, 0 + 1, none⟩) rfl _
  exact ⟨a, _, pss, rfl, (O1.out.below hb2).kept K (fun b hb e => by have := hnew.out b hb; omega), (hw2.setCell (p := ⟨w.heap.size, 0, none⟩) (Nat.le_refl _) _).setCell (p := ⟨w.heap.size, 0 + 1, none⟩) (Nat.le_refl _) _⟩

/-! impl.DataExpr -/
def deN (d : GData) : List GNode := if dataExprP d then dNodes d else []
def DePost (d : GData) (w : World) (e : Ending) (w' : World) : Prop :=
  ∃ a v pss, e = .returned (.tuple #[.agg #[.slice a 0 0, v], .bool (dataExprP d)]) ∧ OwnN w.heap.size w' v pss (deN d) ∧ Below w.heap.size w w'
theorem DePost.no {d : GData} {w w' : World} (h : dataExprP d = false) (hb : Below w.heap.size w w') : DePost d w (.returned (.tuple #[.agg #[.slice none 0 0, .slice none 0 0], .bool false])) w' :=
  ⟨none, _, [], by rw [h], by unfold deN; rw [h]; exact OwnN.nil, hb⟩
theorem DePost.yes {d : GData} {w w' : World} {a : Option Addr} {v : Value} {pss : List (List Nat)} (h : dataExprP d = true) (ho : OwnN w.heap.size w' v pss (dNodes d)) (hb : Below w.heap.size w w') : DePost d w (.returned (.tuple #[.agg #[.slice a 0 0, v], .bool true])) w' :=
  ⟨a, v, pss, by rw [h], by unfold deN; rw [h]; exact ho, hb⟩
theorem GrowO.lower {α : Type} {e : TypeId} {sz : Nat} {O : FootR α} {lo lo' : Nat} {w : World} {v : Value} {ps : List (List Nat)} {xs : List α} (h : GrowO e sz O lo w v ps xs) (hl : lo' ≤ lo) : GrowO e sz O lo' w v ps xs := by
  obtain ⟨rows, h1, h2⟩ := h
  exact ⟨rows, own_lo h1 hl, h2⟩
theorem OwnN.reads {lo : Nat} {w : World} {v : Value} {pss : List (List Nat)} {xs : List GNode} (h : OwnN lo w v pss xs) : Sl GNode.R 6 lo w v xs := (h.grow.slO).sl GNode.ok h.lo
theorem data_wf {r : List Value} {d : GData} {lo : Nat} {w : World} (hr : GData.R lo w r d) : ∀ (j : Nat) x, d.nodes[j]? = some x → x.wf := fun j x hx => by
  obtain ⟨u, rfl, -, hs⟩ := hr
  obtain ⟨a, c, rfl, h1, h2, h3⟩ := hs
  obtain ⟨b, off, _, _, h4⟩ := h3 (by have := (List.getElem?_eq_some_iff.1 hx).1; omega)
  obtain ⟨q, ⟨_, _, hw, _⟩, _⟩ := h4 j x hx
  exact hw
theorem dataOk_nodes {d : GData} (h : dataOk d = true) : ∀ (j : Nat) x, d.nodes[j]? = some x → nodeOk d.nodes x = true := by
  unfold dataOk at h
  simp only [Bool.and_eq_true, decide_eq_true_eq, Bool.not_eq_true'] at h
  obtain ⟨h1, h2, h3⟩ := h
  intro j x hx
  rw [List.any_eq_false] at h3
  have := h3 x (List.mem_of_getElem? hx)
  simpa using this
theorem data_doks {r : List Value} {d : GData} {lo : Nat} {w : World} (hr : GData.R lo w r d) (h : dataOk d = true) : DOkS d.nodes.length (treeOf d.nodes d.nodes.length 0) := by
  obtain ⟨hU, h0, _⟩ := dataOk_up h
  exact treeOf_doks d.nodes hU (dataOk_nodes h) (data_wf hr) d.nodes.length 0 h0 (by omega)

set_option maxRecDepth 100000 in
set_option maxHeartbeats 16000000 in
theorem implDataExpr_c (d : GData) (hd : d.nodes.length ≤ 1152921504606846976) (r : List Value) (lo : Nat) (w : World) (hr : GData.R lo w r d) :
    Calls Tryz.prog 7 #[.agg r.toArray] w (DePost d w) := by
  have cO := fun W (hW : Below w.heap.size w W) => DataOk_c d hd r lo W (GData.good.below hr hW)
  have hds : dataOk d = true → DOkS d.nodes.length (treeOf d.nodes d.nodes.length 0) := fun h => data_doks hr h
  obtain ⟨u, rfl, -, hs⟩ := id hr
  obtain ⟨ua, uc, rfl⟩ := hs.form
  have cG : dataOk d = true → ∀ W (hW : Below w.heap.size w W), Calls Tryz.prog 21 #[.slice ua d.nodes.length uc, .int .i64 0] W fun e w' => ∃ b, e = .returned (.pointer (some ⟨b, 0, none⟩)) ∧ PxR d.nodes.length (fun b => W.heap.size ≤ b) w' (.pointer (some ⟨b, 0, none⟩)) (treeOf d.nodes d.nodes.length 0) ∧ Below W.heap.size W w' := fun h W hW => by
    obtain ⟨hU, h0, h6⟩ := dataOk_up h
    exact growData_c d.nodes hU (dataOk_few h) h6 d.nodes.length 0 _ lo W (hs.below GDNode.good hW) h0 (by omega)
  obtain ⟨q, hq⟩ : ∃ q, dataOk d = q := ⟨_, rfl⟩
  rw [hq] at cO cG hds
  have hno : q = false → dataExprP d = false := fun h => by unfold dataExprP; rw [hq, h]; rfl
  replace cO := Lib.hid cO; replace cG := Lib.hid cG; replace hds := Lib.hid hds; replace hq := Lib.hid hq
  clear hs hr
  obtain ⟨n, hn⟩ : ∃ n, n = d.nodes.length := ⟨_, rfl⟩
  show Calls Tryz.prog 7 #[.agg #[.slice ua d.nodes.length uc]] w _
  have hpost0 : dataExprP d = false → ∀ W, Below w.heap.size w W → DePost d w (.returned (.tuple #[.agg #[.slice none 0 0, .slice none 0 0], .bool false])) W := fun h W hW => DePost.no h hW
  have hpost1 : dataExprP d = true → ∀ W a v pss, OwnN w.heap.size W v pss (dNodes d) → Below w.heap.size w W → DePost d w (.returned (.tuple #[.agg #[.slice a 0 0, v], .bool true])) W := fun h W a v pss ho hW => DePost.yes h ho hW
  generalize DePost d w = P at *
  replace hpost0 := Lib.hid hpost0; replace hpost1 := Lib.hid hpost1; replace hno := Lib.hid hno; replace hn := Lib.hid hn
  cases q
  · have hno1 := hpost0.out (hno.out rfl)
    clear cG hds hno hpost0 hpost1
    replace hno1 := Lib.hid hno1
    go_enter Tryz.func7, Tryz.ntmps7
    go_upto_region 1 with fail
    have D : RowAt (w.alloc (.cells #[.slice ua d.nodes.length uc] 34)) (w.heap.size) 0 [.slice ua d.nodes.length uc] := RowAt.box w #[.slice ua d.nodes.length uc] 34
    have D := D.below (show Below (w.alloc (.cells #[.slice ua d.nodes.length uc] 34)).heap.size (w.alloc (.cells #[.slice ua d.nodes.length uc] 34)) ((w.alloc (.cells #[.slice ua d.nodes.length uc] 34)).alloc (.cells #[.slice none 0 0, .slice none 0 0] 29)) by go_grown)
    have R : RowAt ((w.alloc (.cells #[.slice ua d.nodes.length uc] 34)).alloc (.cells #[.slice none 0 0, .slice none 0 0] 29)) (w.heap.size + 1) 0 [.slice none 0 0, .slice none 0 0] := by have h := RowAt.box (w.alloc (.cells #[.slice ua d.nodes.length uc] 34)) #[.slice none 0 0, .slice none 0 0] 29; simp only [World.size_alloc] at h; exact h
    have RW : Wr ((w.alloc (.cells #[.slice ua d.nodes.length uc] 34)).alloc (.cells #[.slice none 0 0, .slice none 0 0] 29)) (w.heap.size + 1) 0 2 := by have h := Wr.box (w.alloc (.cells #[.slice ua d.nodes.length uc] 34)) #[.slice none 0 0, .slice none 0 0] 29; simp only [World.size_alloc] at h; exact h
    have hw : Below w.heap.size w ((w.alloc (.cells #[.slice ua d.nodes.length uc] 34)).alloc (.cells #[.slice none 0 0, .slice none 0 0] 29)) := by go_grown
    generalize ((w.alloc (.cells #[.slice ua d.nodes.length uc] 34)).alloc (.cells #[.slice none 0 0, .slice none 0 0] 29)) = w0 at *
    have d_0 := D.box1; have hsD := World.block_lt_of_cell? _ _ d_0; dsimp only at hsD; have rf_0 := RW.frz 0 (by omega); have rf_1 := RW.frz 1 (by omega); obtain ⟨r_0, r_1⟩ := R.box2; have hsR := World.block_lt_of_cell? _ _ r_0; dsimp only at hsR
    go_wp2_with (go_at_call 19; (with_reducible refine (cO.out _ hw).mono ?_); rintro e w1 ⟨rfl, hb1⟩; have hw1 := hw.trans (hb1.mono hw.size); have R1 := R.below hb1; have R1W := RW.below hb1; have r1f_0 := R1W.frz 0 (by omega); have r1f_1 := R1W.frz 1 (by omega); obtain ⟨r1_0, r1_1⟩ := R1.box2; have hsR1 := World.block_lt_of_cell? _ _ r1_0; dsimp only at hsR1)
    refine bodyPost_ret (ret_prog_tmp (a := 2) (b := 3) Tryz.results7 rfl rfl (row2 R1 (.slice none 0 0) (.slice none 0 0))) rfl ?_
    exact hno1.out _ (by go_grown)
  · replace cG := cG.out rfl
    replace hds := hds.out rfl
    have hsm := dNodes_sm d hq.out
    have cX := fun A pv W (hW : PxR d.nodes.length A W pv (treeOf d.nodes d.nodes.length 0)) => dataExpr_c d.nodes.length (treeOf d.nodes d.nodes.length 0) A pv W hW hds.dok
    have hbad := fun (h : dExpr (treeOf d.nodes d.nodes.length 0) = none) => dataExpr_bad h
    have hszx : ∀ x, dExpr (treeOf d.nodes d.nodes.length 0) = some x → layE 0 x = dNodes d ∧ szE x ≤ 16777216 := fun x h => by
      have h1 := dataExpr_good h
      refine ⟨h1, ?_⟩
      have h2 := hsm.2
      rw [← h1, layE_len] at h2
      omega
    have cK := fun (a : Option Addr) (v : Value) (lo : Nat) W (hS : Sl GNode.R 6 lo W v (dNodes d)) => ProgramOk_c ⟨[], dNodes d⟩ hsm.1 [.slice a 0 0, v] lo W ⟨.slice a 0 0, v, rfl, trivial, ⟨a, 0, rfl, Nat.zero_le _, by decide, fun h => absurd h (by simp)⟩, hS⟩
    have hpp : dataExprP d = progOk ⟨[], dNodes d⟩ := by unfold dataExprP; rw [hq.out]; rfl
    replace hsm := Lib.hid hsm; replace cX := Lib.hid cX; replace hbad := Lib.hid hbad; replace hszx := Lib.hid hszx; replace cK := Lib.hid cK; replace hpp := Lib.hid hpp; replace cG := Lib.hid cG
    clear hds hno
    generalize treeOf d.nodes d.nodes.length 0 = t at *
    generalize d.nodes.length = n' at *
    go_enter Tryz.func7, Tryz.ntmps7
    go_upto_region 1 with fail
    have D : RowAt (w.alloc (.cells #[.slice ua n' uc] 34)) (w.heap.size) 0 [.slice ua n' uc] := RowAt.box w #[.slice ua n' uc] 34
    have D := D.below (show Below (w.alloc (.cells #[.slice ua n' uc] 34)).heap.size (w.alloc (.cells #[.slice ua n' uc] 34)) ((w.alloc (.cells #[.slice ua n' uc] 34)).alloc (.cells #[.slice none 0 0, .slice none 0 0] 29)) by go_grown)
    have R : RowAt ((w.alloc (.cells #[.slice ua n' uc] 34)).alloc (.cells #[.slice none 0 0, .slice none 0 0] 29)) (w.heap.size + 1) 0 [.slice none 0 0, .slice none 0 0] := by have h := RowAt.box (w.alloc (.cells #[.slice ua n' uc] 34)) #[.slice none 0 0, .slice none 0 0] 29; simp only [World.size_alloc] at h; exact h
    have RW : Wr ((w.alloc (.cells #[.slice ua n' uc] 34)).alloc (.cells #[.slice none 0 0, .slice none 0 0] 29)) (w.heap.size + 1) 0 2 := by have h := Wr.box (w.alloc (.cells #[.slice ua n' uc] 34)) #[.slice none 0 0, .slice none 0 0] 29; simp only [World.size_alloc] at h; exact h
    have hw : Below w.heap.size w ((w.alloc (.cells #[.slice ua n' uc] 34)).alloc (.cells #[.slice none 0 0, .slice none 0 0] 29)) := by go_grown
    generalize ((w.alloc (.cells #[.slice ua n' uc] 34)).alloc (.cells #[.slice none 0 0, .slice none 0 0] 29)) = w0 at *
    have d_0 := D.box1; have hsD := World.block_lt_of_cell? _ _ d_0; dsimp only at hsD; have rf_0 := RW.frz 0 (by omega); have rf_1 := RW.frz 1 (by omega); obtain ⟨r_0, r_1⟩ := R.box2; have hsR := World.block_lt_of_cell? _ _ r_0; dsimp only at hsR
    go_upto_region 4 with (first
      | (go_at_call 19; (with_reducible refine (cO.out _ hw).mono ?_); rintro e w1 ⟨rfl, hb1⟩; have hw1 := hw.trans (hb1.mono hw.size); have D1 := D.below hb1; have R1 := R.below hb1; have R1W := RW.below hb1; have d1_0 := D1.box1; have hsD1 := World.block_lt_of_cell? _ _ d1_0; dsimp only at hsD1)
      | (go_at_call 21; (with_reducible refine (cG.out _ hw1).mono ?_); rintro e w2 ⟨b2, rfl, X2, hb2⟩; have hw2 := hw1.trans (hb2.mono hw1.size); have hz2 := hb2.size; have R2 := R1.below hb2; have R2W := R1W.below hb2)
      | (go_at_call 20; (with_reducible refine (cX.out _ _ _ X2).mono ?_); rintro e w3 ⟨hb3, hE⟩; rcases hE with ⟨x, qx, hx, rfl, hR⟩ | ⟨vx, hx, rfl⟩))
    · have hw3 := hw2.trans (hb3.mono hw2.size)
      have R3 := R2.below hb3
      have R3W := R2W.below hb3
      obtain ⟨hlx, hsx⟩ := hszx.out x hx
      have hR' := hR.to (Same.below (Below.refl _ _)) (S' := fun b => b < w3.heap.size) (fun b h1 h2 => h2)
      have cP := programOf_nil _ x (fun b => b < w3.heap.size) _ w3 hR' (fun q h => h) hsx
      rw [hlx] at cP
      have hz3 := hb3.size
      replace cP := Lib.hid cP; replace hlx := Lib.hid hlx; replace hx := Lib.hid hx
      clear R1 R2 R1W R2W d1_0 hsD1 X2 hR hR'
      go_upto_region 7 with (go_at_call 22; (with_reducible refine (cP.out).mono ?_); rintro e w4 ⟨a, v, pss, rfl, O4, hb4⟩; obtain ⟨va, vc, rfl⟩ := O4.form)
      have hw4 := hw3.trans (hb4.mono hw3.size)
      obtain ⟨w5, hW5⟩ : ∃ W, W = w4.alloc (.cells #[.slice a 0 0, .slice va (dNodes d).length vc] 29) := ⟨_, rfl⟩
      rw [← hW5]
      have hb5 : Below w4.heap.size w4 w5 := by rw [hW5]; go_grown
      have Q5 : RowAt w5 w4.heap.size 0 [.slice a 0 0, .slice va (dNodes d).length vc] := by rw [hW5]; exact RowAt.box w4 #[_, _] _
      have R5 := (R3.below hb4).below hb5
      have R5W := (R3W.below hb4).below hb5
      have hw5 := hw4.trans (hb5.mono hw4.size)
      have O5 := O4.below hb5
      have hz4 := hb4.size
      obtain ⟨bQ, hbQ⟩ : ∃ b, b = w4.heap.size := ⟨_, rfl⟩
      rw [← hbQ] at Q5 ⊢
      have hlo5 : w.heap.size + 2 ≤ w3.heap.size := by
        have h1 := World.block_lt_of_cell? _ _ R3.box2.1
        dsimp only at h1; omega
      have cK5 := cK.out a _ w3.heap.size w5 O5.reads
      rw [← hpp.out] at cK5
      have hp0 := hpost0.out
      have hp1 := hpost1.out
      clear hW5 R3 R3W O4 hb4 hb5 hpost0 hpost1 cP
      replace O5 := Lib.hid O5; replace cK5 := Lib.hid cK5; replace hbQ := Lib.hid hbQ; replace hp0 := Lib.hid hp0; replace hp1 := Lib.hid hp1
      generalize dataExprP d = res at *
      generalize (dNodes d).length = nl at *
      obtain ⟨q5_0, q5_1⟩ := Q5.box2; have hsQ5 := World.block_lt_of_cell? _ _ q5_0; dsimp only at hsQ5; have r5f_0 := R5W.frz 0 (by omega); have r5f_1 := R5W.frz 1 (by omega); obtain ⟨r5_0, r5_1⟩ := R5.box2; have hsR5 := World.block_lt_of_cell? _ _ r5_0; dsimp only at hsR5
      cases res
      · have hp := hp0.out rfl
        clear hp0 hp1
        replace hp := Lib.hid hp
        go_wp2_with (go_at_call 23; (with_reducible refine (cK5.out).mono ?_); rintro e w6 ⟨rfl, hb6⟩; have hw6 := hw5.trans (hb6.mono hw5.size); have R6 := R5.below hb6; have R6W := R5W.below hb6; have r6f_0 := R6W.frz 0 (by omega); have r6f_1 := R6W.frz 1 (by omega); obtain ⟨r6_0, r6_1⟩ := R6.box2; have hsR6 := World.block_lt_of_cell? _ _ r6_0; dsimp only at hsR6)
        refine bodyPost_ret (ret_prog_tmp (a := 2) (b := 3) Tryz.results7 rfl rfl (row2 R6 (.slice none 0 0) (.slice none 0 0))) rfl ?_
        exact hp.out _ (by go_grown)
      · have hp := hp1.out rfl
        clear hp0 hp1
        replace hp := Lib.hid hp
        go_wp2_with (go_at_call 23; (with_reducible refine (cK5.out).mono ?_); rintro e w6 ⟨rfl, hb6⟩; have hw6 := hw5.trans (hb6.mono hw5.size); have R6 := R5.below hb6; have R6W := R5W.below hb6; have Q6 := Q5.below hb6; have r6f_0 := R6W.frz 0 (by omega); have r6f_1 := R6W.frz 1 (by omega); obtain ⟨r6_0, r6_1⟩ := R6.box2; have hsR6 := World.block_lt_of_cell? _ _ r6_0; dsimp only at hsR6; obtain ⟨q6_0, q6_1⟩ := Q6.box2; have hsQ6 := World.block_lt_of_cell? _ _ q6_0; dsimp only at hsQ6)
        refine bodyPost_ret (ret_prog_tmp (a := 2) (b := 3) Tryz.results7 rfl rfl (row2 R6 (.slice a 0 0) (.slice va nl vc))) rfl ?_
        have O6 := O5.out.below hb6
        have K : Kept (· = w.heap.size + 1) w6 ((w6.setCell ⟨w.heap.size + 1, 0, none⟩ (.slice a 0 0)).setCell ⟨w.heap.size + 1, 0 + 1, none⟩ (.slice va nl vc)) := ((Kept.refl (fun b => b = w.heap.size + 1) w6).set (p := ⟨w.heap.size + 1, 0, none⟩) rfl _).set (p := ⟨w.heap.size + 1, 0 + 1, none⟩) rfl _
        have O7 := O6.kept K (fun b hb e => by have := O6.lo b hb; omega)
        exact hp.out _ a _ pss ⟨O7.grow.lower (by omega), O7.nd, fun b hb => by have := O7.lo b hb; omega⟩ (by go_grown)
    · have hno := hbad.out hx
      have hw3 := hw2.trans (hb3.mono hw2.size)
      have R3 := R2.below hb3
      have R3W := R2W.below hb3
      have hp := hpost0.out hno
      replace hp := Lib.hid hp; replace hno := Lib.hid hno; replace hx := Lib.hid hx
      clear R1 R2 R1W R2W hpost0 hpost1 d1_0 hsD1
      have r3f_0 := R3W.frz 0 (by omega); have r3f_1 := R3W.frz 1 (by omega); obtain ⟨r3_0, r3_1⟩ := R3.box2; have hsR3 := World.block_lt_of_cell? _ _ r3_0; dsimp only at hsR3
      go_wp2_with fail
      refine bodyPost_ret (ret_prog_tmp (a := 2) (b := 3) Tryz.results7 rfl rfl (row2 R3 (.slice none 0 0) (.slice none 0 0))) rfl ?_
      exact hp.out _ (by go_grown)
end Go.Proofs.YtnmmfcnkpcigoaaGreat
