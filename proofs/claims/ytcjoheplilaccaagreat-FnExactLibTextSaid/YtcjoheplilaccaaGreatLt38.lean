/- Parts of the proof, merged: Uses, Nd3. -/
import Derived.Test.YtcjoheplilaccaaGreatLt37
/- The program's libUses. -/
namespace Go.Proofs.YtcjoheplilaccaaGreat
open Go.RowKit
set_option linter.unusedVariables false
set_option linter.unusedSimpArgs false
attribute [local go_sem] Ext.cell

def usesX (name : ByteArray) (x : ExT) (l : List ByteArray) : List ByteArray := l.filter fun n => !(eqS n name) && decide (0 < countE n x)
def ownX (name : ByteArray) (x : ExT) : Bool := decide (0 < countE name x)
theorem usesX_snoc (name : ByteArray) (x : ExT) (l : List ByteArray) (n : ByteArray) : usesX name x (l ++ [n]) = usesX name x l ++ (if (!(eqS n name) && decide (0 < countE n x)) = true then [n] else []) := by
  unfold usesX
  rw [List.filter_append]
  congr 1
  by_cases h : (!(eqS n name) && decide (0 < countE n x)) = true
  · rw [List.filter_cons]; show (if (!eqS n name && decide (0 < countE n x)) = true then _ else _) = _; rw [if_pos h, if_pos h]; rfl
  · rw [List.filter_cons]; show (if (!eqS n name && decide (0 < countE n x)) = true then _ else _) = _; rw [if_neg h, if_neg h]; rfl
theorem usesX_len (name : ByteArray) (x : ExT) (l : List ByteArray) : (usesX name x l).length ≤ l.length := List.length_filter_le _ _
/-- What treeL tells. -/
structure TreeL (s : ByteArray) (x : ExT) : Prop where
  parse : ∀ w, Calls Tryz.prog 28 #[.string s] w (ParsePost x w)
  tree : TreeOf ⟨[], layE 0 x⟩ x
theorem treeL_out {s : ByteArray} {x : ExT} (hs : s.size ≤ 200) (h : treeL s.data.toList = some x) : TreeL s x := by
  unfold treeL at h
  obtain ⟨L, hL, h⟩ := Option.bind_eq_some_iff.1 h
  split at h
  · cases h
  rename_i h1
  obtain ⟨o, ho, h⟩ := Option.bind_eq_some_iff.1 h
  split at h
  rotate_left
  · cases h
  rename_i h2
  obtain rfl := Option.some.inj h
  obtain ⟨h3, h4, h5, h6, h7⟩ := h2
  have hsz : s.data.toList.length = s.size := rfl
  have h8 : ∀ y ∈ layE 0 o.t, y.pats.length ≤ 600 ∧ ∀ q ∈ y.pats, q.nodes.length ≤ 600 ∧ ∀ z ∈ q.nodes, z.kids.length ≤ 600 := fun y hy => by
    have := List.all_eq_true.1 h7 y hy
    rw [Bool.and_eq_true] at this
    refine ⟨of_decide_eq_true this.1, fun q hq => ?_⟩
    have h := List.all_eq_true.1 this.2 q hq
    rw [Bool.and_eq_true] at h
    exact ⟨of_decide_eq_true h.1, fun z hz => of_decide_eq_true (List.all_eq_true.1 h.2 z hz)⟩
  have hn1 : ¬ 4000 < L.length := fun h => h1 (.inl h)
  have hn2 : eqS (sgn (tokAt L s.size 0)) qType = false := by
    rw [← hsz]
    cases h : eqS (sgn (tokAt L s.data.toList.length 0)) qType
    · rfl
    · exact absurd (.inr h) h1
  refine ⟨fun w => Parse_c s (by omega) 200 (by decide) L (by simpa [restB] using hL) (by omega) hn2 o ho h3 h4 (fun y hy => ⟨by have := (h8 y hy).1; omega, fun q hq => ((h8 y hy).2 q hq).1⟩) w, ⟨h5, ⟨?_, ?_, ?_, ?_⟩, fun j y hy => by rw [Nat.zero_add]; exact hy, ?_, ?_, h6⟩⟩
  · show (layE 0 o.t).length ≤ _; rw [layE_len]; omega
  · exact Nat.zero_le _
  · intro t ht; cases ht
  · intro y hy
    exact ⟨by have := (h8 y hy).1; omega, fun q hq => by have := ((h8 y hy).2 q hq).1; omega⟩
  · show (layE 0 o.t).length ≤ _; rw [layE_len]; exact h4
  · intro y hy
    exact ⟨by have := (h8 y hy).1; omega, fun q hq => ⟨by have := ((h8 y hy).2 q hq).1; omega, fun z hz => by have := ((h8 y hy).2 q hq).2 z hz; omega⟩⟩
theorem libNames_get {k : Nat} (h : k < 13) : ∃ n, libNames[k]? = some n ∧ (libNames.map Value.string)[k]? = some (.string n) ∧ StrOk n := by
  have hl : k < libNames.length := h
  exact ⟨libNames[k], List.getElem?_eq_getElem hl, by rw [List.getElem?_map, List.getElem?_eq_getElem hl]; rfl, libNames_ok _ (List.getElem_mem _)⟩

def UsesPost (name : ByteArray) (x : ExT) (w : World) (e : Ending) (w' : World) : Prop :=
  ∃ v, e = .returned (.tuple #[v, .bool (ownX name x)]) ∧ OwnF 9 1 strRow StrOk w.heap.size w' v (usesX name x libNames) ∧ Below w.heap.size w w'
set_option maxRecDepth 100000 in
set_option maxHeartbeats 16000000 in
theorem libUses_c (name : ByteArray) (x : ExT) (hx : TreeL (libFunP name) x) (w : World) : Calls Tryz.prog 20 #[.string name] w (UsesPost name x w) := by
  have cF := fun W => libFun_c name W
  have cP := hx.parse
  have hpost : ∀ W v, OwnF 9 1 strRow StrOk w.heap.size W v (usesX name x libNames) → Below w.heap.size w W → UsesPost name x w (.returned (.tuple #[v, .bool (ownX name x)])) W := fun W v h1 h2 => ⟨v, rfl, h1, h2⟩
  have hown : ownX name x = decide (0 < countE name x) := rfl
  generalize ownX name x = ow at *
  generalize UsesPost name x w = Q at *
  generalize libFunP name = tx at *
  have cI := fun n r lo W (hr : GProgram.R lo W r ⟨[], layE 0 x⟩) => FreeIn_c ⟨[], layE 0 x⟩ x hx.tree n r lo W hr
  replace cF := Lib.hid cF; replace cP := Lib.hid cP; replace hpost := Lib.hid hpost; replace hown := Lib.hid hown; replace cI := Lib.hid cI
  clear hx
  obtain ⟨iJ, hi0, hz0, hz1, hz2⟩ := info_parts info_StrLn; have IJ := Lib.hid hi0; have IJ0 := Lib.hid hz0; have IJ1 := Lib.hid hz1; have IJ2 := Lib.hid hz2; clear hi0 hz0 hz1 hz2
  go_enter Tryz.func20, Tryz.ntmps20
  go_upto_region 2 with (first
    | (go_at_call 19; (with_reducible refine (cF.out _).mono ?_); rintro e w1 ⟨rfl, hb1⟩)
    | (go_at_call 28; (with_reducible refine (cP.out _).mono ?_); rintro e w2 ⟨ta, nv, pss, rfl, O2, hb2⟩; obtain ⟨na, nc, rfl⟩ := O2.form))
  have hz1 := hb1.size
  have hz2 := hb2.size
  have hO2lt := O2.lt
  have hrd : ∀ W, OwnN w1.heap.size W (.slice na (layE 0 x).length nc) pss (layE 0 x) → GProgram.R 0 W [.slice ta 0 0, .slice na (layE 0 x).length nc] ⟨[], layE 0 x⟩ := fun W O => ⟨_, _, rfl, trivial, ⟨ta, 0, rfl, Nat.le_refl _, Nat.zero_le _, fun h => absurd h (by simp)⟩, (O.lowerP (Nat.zero_le _)).readsP⟩
  generalize (layE 0 x).length = nl at *
  obtain ⟨w3, hW3⟩ : ∃ W, W = w2.alloc (.cells #[.slice ta 0 0, .slice na nl nc] 46) := ⟨_, rfl⟩
  rw [← hW3]
  have hb3 : Below w2.heap.size w2 w3 := by rw [hW3]; go_grown
  have D3 : RowAt w3 w2.heap.size 0 [.slice ta 0 0, .slice na nl nc] := by rw [hW3]; exact RowAt.box w2 #[_, _] _
  have hz3 : w3.heap.size = w2.heap.size + 1 := by rw [hW3]; simp
  have O3 := O2.below hb3
  obtain ⟨pb, hpb⟩ : ∃ b, b = w2.heap.size := ⟨_, rfl⟩
  rw [← hpb] at D3 ⊢
  have hw3 := (hb1.trans (hb2.mono hz1)).trans (hb3.mono (by omega))
  have hpb3 : pb < w3.heap.size := by omega
  replace hpb := Lib.hid hpb
  clear hW3 O2 hb1 hb2 hb3 cP cF
  go_upto_region 3 with fail
  obtain ⟨w4, hW4⟩ : ∃ W, W = w3.alloc (.cells #[] 9) := ⟨_, rfl⟩
  rw [← hW4]
  have hb4 : Below w3.heap.size w3 w4 := by rw [hW4]; go_grown
  have hz4' : w4.heap.size = w3.heap.size + 1 := by rw [hW4]; simp
  have O4 : OwnF 9 1 strRow StrOk w.heap.size w4 (.slice (some ⟨w3.heap.size, 0, none⟩) 0 0) [] := ⟨own_empty_at (by rw [hW4]; exact heap_alloc_new' _ _ _ (by simp)) (by omega), fun x h => by cases h⟩
  have D4 := D3.below hb4
  have P4 := O3.below hb4
  have hw4 := hw3.trans (hb4.mono hw3.size)
  obtain ⟨ob, hob⟩ : ∃ b, b = w3.heap.size := ⟨_, rfl⟩
  have hov : ∀ q, (Value.slice (some ⟨ob, 0, none⟩) 0 0).ownBlock = some q → q = ob := fun q hq => by simpa [Value.ownBlock] using hq.symm
  rw [← hob] at O4 hz4' hpb3
  have hob2 : w2.heap.size < ob := by omega
  rw [show (w2.heap.size + 1) = ob by omega]
  clear hW4 D3 O3 hb4 hz3 hob
  have cL := impl_LibNames_c w4
  replace cL := Lib.hid cL
  generalize (Value.slice (some ⟨ob, 0, none⟩) 0 0) = ov at *
  go_upto_region 4 with (go_at_call 22; (with_reducible refine (cL.out).mono ?_); rintro e w5 ⟨lv, rfl, OL, hb5⟩; obtain ⟨g, lcap, rfl, l1, l2, l3, l4, LR, l6⟩ := own_cells OL (by decide))
  have hz4 := hw4.size
  have hz5 := hb5.size
  have D5 := D4.below hb5
  have P5 := P4.below hb5
  have hw5 := hw4.trans (hb5.mono hz4)
  have O5 := O4.below hb5
  clear D4 P4 O4 OL cL l6
  have hrr : ∀ W, Kept (· = ob) w5 W → GProgram.R 0 W [.slice ta 0 0, .slice na nl nc] ⟨[], layE 0 x⟩ := fun W hW => hrd W (P5.kept hW fun b hb e => by have := hO2lt b hb; omega)
  have hpo : pb ≠ ob := by omega
  have hgo : g ≠ ob := by omega
  replace O5 := Lib.hid O5; replace hrr := Lib.hid hrr; replace hov := Lib.hid hov
  clear hrd P5 hO2lt
  go_wp2_with fail
  go_loopw [7, 20] (fun ov ii wr => ∃ k : Nat, k ≤ 13 ∧ ii = .int .i64 k ∧ Hid (OwnF 9 1 strRow StrOk w.heap.size wr ov (usesX name x (libNames.take k))) ∧ Hid (∀ q, ov.ownBlock = some q → q = ob ∨ w5.heap.size ≤ q) ∧ Hid (Kept (· = ob) w5 wr) ∧ Below w.heap.size w wr ∧ w5.heap.size ≤ wr.heap.size) (fun _ ii _ => 13 - (intOf ii).toNat)
  case atStart => exact ⟨0, by omega, rfl, by simpa [usesX] using O5, Lib.hid (fun q hq => .inl (hov.out q hq)), Lib.hid (Kept.refl _ _), hw5, Nat.le_refl _⟩
  case round =>
    clear O5 hov
    obtain ⟨k, hk, rfl, O, hov, K, hwA, hsz5⟩ := hrel
    have hsz := hwA.size
    have D := D5.kept K.out hpo
    have LRk := LR.kept K.out hgo
    have hrw := hrr.out wr K.out
    replace hrw := Lib.hid hrw
    by_cases hlt : k < 13
    · obtain ⟨n, hn1, hn2, hno⟩ := libNames_get hlt
      have htk : libNames.take (k + 1) = libNames.take k ++ [n] := by rw [List.take_add_one, hn1]; rfl
      have hpn := usesX_snoc name x (libNames.take k) n
      rw [← htk] at hpn
      have e_0 : wr.cell? ⟨g, 0 + k, none⟩ = some (.string n) := LRk k _ hn2
      rw [Nat.zero_add] at e_0
      have hbb1 := World.block_lt_of_cell? _ _ e_0; dsimp only at hbb1
      have cIn := fun W (hW : Below wr.heap.size wr W) => cI.out n _ 0 W (GProgram.good.below hrw.out hW)
      have hkb : (usesX name x (libNames.take k)).length ≤ 13 := by
        have h1 := usesX_len name x (libNames.take k)
        rw [List.length_take] at h1
        omega
      have c1 : (n.toList != name.toList) = !(eqS n name) := by rw [bne, eqS_list]
      have c2 : (n.toList == name.toList) = eqS n name := eqS_list n name
      generalize eqS n name = q at *
      generalize decide (0 < countE n x) = fr at *
      generalize hl : usesX name x (libNames.take k) = l at *
      generalize hl2 : usesX name x (libNames.take (k + 1)) = l2 at *
      obtain ⟨va, vc, rfl⟩ := O.out.form
      obtain ⟨vn, hvn⟩ : ∃ y, y = l.length := ⟨_, rfl⟩
      have hown2 := O.out.1
      have hOw := Lib.hid O.out.2
      rw [← hvn] at hown2 hkb hov ⊢
      replace hl := Lib.hid hl; replace hl2 := Lib.hid hl2; replace hpn := Lib.hid hpn; replace htk := Lib.hid htk; replace hvn := Lib.hid hvn; replace hn1 := Lib.hid hn1; replace hn2 := Lib.hid hn2; replace cIn := Lib.hid cIn; replace hown2 := Lib.hid hown2
      clear LRk
      obtain ⟨d_0, d_1⟩ := D.box2; have hsD := World.block_lt_of_cell? _ _ d_0; dsimp only at hsD
      have fin0 : (!q && fr) = false → ∀ W, Below wr.heap.size wr W → Hid (OwnF 9 1 strRow StrOk w.heap.size W (.slice va vn vc) l2) := fun hq W hW => Lib.hid (by
        rw [hpn.out, hq, if_neg (by simp), List.append_nil, hvn.out]
        exact O.out.below hW)
      replace fin0 := Lib.hid fin0
      cases q
      · replace c1 : (n.toList != name.toList) = true := c1
        cases fr
        · go_wp2_with (go_at_call 29; (with_reducible refine (cIn.out _ (Below.refl _ _)).mono ?_); rintro e w1 ⟨rfl, hb⟩)
          go_roundw
          case rel => exact ⟨k + 1, by omega, by go_num, by rw [hl2.out]; exact fin0.out rfl _ hb, hov, Lib.hid (K.out.trans hsz5 (Kept.below hb)), hwA.trans (hb.mono hsz), Nat.le_trans hsz5 hb.size⟩
          case measure => simp [intOf]; omega
        · go_upto_region 7 with (go_at_call 29; (with_reducible refine (cIn.out _ (Below.refl _ _)).mono ?_); rintro e w1 ⟨rfl, hb⟩)
          have hwB := hwA.trans (hb.mono hwA.size)
          have hown6 := own_below hown2.out hb
          have hzB := hwB.size
          have hzb := hb.size
          have K1 := Lib.hid (K.out.trans hsz5 (Kept.below hb))
          replace hown6 := Lib.hid hown6
          clear hown2 fin0
          go_wp2_with (at_builtin; refine wpList_append_lies _ rfl _ _ _ rfl (w.heap.size) 9 iJ _ 1 16 Tryz.underlying22 IJ.out IJ0.out IJ1.out IJ2.out rfl (by omega) (.slice va vn vc) (vn) (rowsOf strRow l) rfl (own_below hown6.out (by go_grown)) ⟨w1.heap.size, 0, none⟩ 1 1 [.string n] rfl rfl (World.news_of_block (cs := #[.string n]) (t := 9) (fr := (0, 0)) (heap_alloc_new' _ _ _ (by simp))) (by intro u hu; simp at hu; (first | (subst hu; rfl) | (rcases hu with rfl | rfl | rfl | rfl <;> rfl) | (rcases hu with rfl | rfl | rfl | rfl | rfl | rfl <;> rfl) | (rcases hu with rfl | rfl | rfl | rfl | rfl | rfl | rfl <;> rfl) | (rcases hu with rfl | rfl | rfl | rfl | rfl | rfl | rfl | rfl | rfl <;> rfl))) (by omega) (by unfold maxLen; omega) (by omega) (by simp; omega) _ rfl ?_; intro g2 cap2 w6 hownN hgrow hat hlt2)
          have hB6 : Below w.heap.size w w6 := below_grown2 (wr := w1) (base := w.heap.size) hgrow (by go_grown) hwB hzB hown6.out
          have k6 := kept_of hgrow (w := w1) (by go_grown)
          have hz6 : w1.heap.size + 1 ≤ w6.heap.size := by have := hgrow.size; simpa using this
          go_roundw
          case rel =>
            refine ⟨k + 1, by omega, by go_num, Lib.hid ⟨?_, fun y hy => ?_⟩, Lib.hid (fun q hq => ?_), Lib.hid (fun q h1 h2 => (k6 q (by omega) (fun e => ?_)).trans (K1.out q h1 h2)), hB6, by omega⟩
            · rw [hl2.out, hpn.out, if_pos (show (!false && true) = true from rfl), List.length_append, ← hvn.out, rowsOf_append, rowsOf_one]
              exact hownN
            · rw [hl2.out, hpn.out, if_pos (show (!false && true) = true from rfl)] at hy
              rcases List.mem_append.1 hy with h | h
              · exact hOw.out y h
              · simp only [List.mem_singleton] at h; rw [h]; exact hno
            · obtain rfl : g2 = q := by simpa [Value.ownBlock] using hq
              rcases hat with h | h
              · exact hov.out g2 h
              · simp at h; omega
            · rcases hov.out q e.symm with h | h
              · exact h2 h
              · omega
          case measure => simp [intOf]; omega
      · replace c1 : (n.toList != name.toList) = false := c1
        go_wp2_with fail
        go_roundw
        case rel => exact ⟨k + 1, by omega, by go_num, by rw [hl2.out]; exact fin0.out rfl _ (Below.refl _ _), hov, K, hwA, hsz5⟩
        case measure => simp [intOf]; omega
    · obtain rfl : k = 13 := by omega
      have O2 := O.out
      rw [show libNames.take 13 = libNames from rfl] at O2
      have cIn := fun W (hW : Below wr.heap.size wr W) => cI.out name _ 0 W (GProgram.good.below hrw.out hW)
      rw [← hown.out] at cIn
      replace cIn := Lib.hid cIn; replace O2 := Lib.hid O2
      obtain ⟨d_0, d_1⟩ := D.box2; have hsD := World.block_lt_of_cell? _ _ d_0; dsimp only at hsD
      go_wp2_with (go_at_call 29; (with_reducible refine (cIn.out _ (Below.refl _ _)).mono ?_); rintro e w1 ⟨rfl, hb⟩)
      exact hpost.out _ _ (O2.out.below hb) (hwA.trans (hb.mono hwA.size))
end Go.Proofs.YtcjoheplilaccaaGreat

/- LibNeeds: the plain law. No program is walked here. -/
namespace Go.Proofs.YtcjoheplilaccaaGreat
open Go.RowKit
set_option linter.unusedVariables false
set_option linter.unusedSimpArgs false

/-- The uses of a name of the library; none of another. -/
def usesT (n : ByteArray) : List ByteArray := match treeL (libFunP n).data.toList with
  | some x => usesX n x libNames
  | none => []
def isLib (n : ByteArray) : Prop := libFunP n ≠ ⟨#[]⟩
/-- What is needed: the names, and what needed ones use. -/
inductive Rch (names : List ByteArray) : ByteArray → Prop where
  | base {n : ByteArray} : n ∈ names → Rch names n
  | step {n u : ByteArray} : Rch names n → isLib n → u ∈ usesT n → Rch names u
/-- The worklist's state. -/
structure NdInv (names todo met : List ByteArray) : Prop where
  sound : ∀ n, n ∈ todo ∨ n ∈ met → Rch names n
  base : ∀ n ∈ names, isLib n → n ∈ met ∨ n ∈ todo
  step : ∀ n ∈ met, ∀ u ∈ usesT n, isLib u → u ∈ met ∨ u ∈ todo
  lib : ∀ n ∈ met, isLib n
  nd : met.Nodup
theorem NdInv.start (names : List ByteArray) : NdInv names names [] := ⟨fun n h => (by rcases h with h | h; exact .base h; cases h), fun n h _ => .inr h, fun n h => (by cases h), fun n h => (by cases h), List.nodup_nil⟩
theorem NdInv.skip {names todo met : List ByteArray} {n : ByteArray} (h : NdInv names (n :: todo) met) (hn : n ∈ met ∨ ¬ isLib n) : NdInv names todo met := by
  refine ⟨fun m hm => h.sound m (by rcases hm with hm | hm; exact .inl (by simp [hm]); exact .inr hm), fun m hm hl => ?_, fun m hm u hu hl => ?_, h.lib, h.nd⟩
  · rcases h.base m hm hl with h1 | h1
    · exact .inl h1
    · rcases List.mem_cons.1 h1 with rfl | h1
      · rcases hn with h2 | h2
        · exact .inl h2
        · exact absurd hl h2
      · exact .inr h1
  · rcases h.step m hm u hu hl with h1 | h1
    · exact .inl h1
    · rcases List.mem_cons.1 h1 with rfl | h1
      · rcases hn with h2 | h2
        · exact .inl h2
        · exact absurd hl h2
      · exact .inr h1
theorem NdInv.take {names todo met : List ByteArray} {n : ByteArray} (h : NdInv names (n :: todo) met) (hn : n ∉ met) (hl : isLib n) : NdInv names (todo ++ usesT n) (met ++ [n]) := by
  have hr : Rch names n := h.sound n (.inl (by simp))
  refine ⟨fun m hm => ?_, fun m hm hml => ?_, fun m hm u hu hul => ?_, fun m hm => ?_, ?_⟩
  · rcases hm with hm | hm
    · rcases List.mem_append.1 hm with hm | hm
      · exact h.sound m (.inl (by simp [hm]))
      · exact .step hr hl hm
    · rcases List.mem_append.1 hm with hm | hm
      · exact h.sound m (.inr hm)
      · simp at hm; subst hm; exact hr
  · rcases h.base m hm hml with h1 | h1
    · exact .inl (by simp [h1])
    · rcases List.mem_cons.1 h1 with rfl | h1
      · exact .inl (by simp)
      · exact .inr (by simp [h1])
  · rcases List.mem_append.1 hm with hm | hm
    · rcases h.step m hm u hu hul with h1 | h1
      · exact .inl (by simp [h1])
      · rcases List.mem_cons.1 h1 with rfl | h1
        · exact .inl (by simp)
        · exact .inr (by simp [h1])
    · simp at hm; subst hm
      exact .inr (by simp [hu])
  · rcases List.mem_append.1 hm with hm | hm
    · exact h.lib m hm
    · simp at hm; subst hm; exact hl
  · rw [List.nodup_append]
    exact ⟨h.nd, by simp, fun a ha b hb => by simp at hb; subst hb; exact fun e => hn (e ▸ ha)⟩
theorem NdInv.done {names met : List ByteArray} (h : NdInv names [] met) {n : ByteArray} (hl : isLib n) : n ∈ met ↔ Rch names n := by
  refine ⟨fun hm => h.sound n (.inr hm), fun hr => ?_⟩
  induction hr with
  | base hb => rcases h.base _ hb hl with h1 | h1; exact h1; cases h1
  | step hr hml hu ih => rcases h.step _ (ih hml) _ hu hl with h1 | h1; exact h1; cases h1
theorem lib_mem {n : ByteArray} (h : isLib n) : n ∈ libNames := by
  unfold isLib libFunP at h
  have key : ∀ q ∈ libNames, eqS n q = true → n ∈ libNames := fun q hq he => by rw [eqS_iff.1 he]; exact hq
  by_cases e : libNames.any (fun q => eqS n q) = true
  · obtain ⟨q, hq, he⟩ := List.any_eq_true.1 e
    exact key q hq he
  · have hno : ∀ q ∈ libNames, ¬ eqS n q = true := fun q hq he => e (List.any_eq_true.2 ⟨q, hq, he⟩)
    exact absurd (by rw [if_neg (hno ln_id (List.mem_of_getElem? (show libNames[0]? = some ln_id from rfl))), if_neg (hno ln_both (List.mem_of_getElem? (show libNames[1]? = some ln_both from rfl))), if_neg (hno ln_not (List.mem_of_getElem? (show libNames[2]? = some ln_not from rfl))), if_neg (hno ln_abs (List.mem_of_getElem? (show libNames[3]? = some ln_abs from rfl))), if_neg (hno ln_len (List.mem_of_getElem? (show libNames[4]? = some ln_len from rfl))), if_neg (hno ln_app (List.mem_of_getElem? (show libNames[5]? = some ln_app from rfl))), if_neg (hno ln_rev (List.mem_of_getElem? (show libNames[6]? = some ln_rev from rfl))), if_neg (hno ln_map (List.mem_of_getElem? (show libNames[7]? = some ln_map from rfl))), if_neg (hno ln_fold (List.mem_of_getElem? (show libNames[8]? = some ln_fold from rfl))), if_neg (hno ln_sum (List.mem_of_getElem? (show libNames[9]? = some ln_sum from rfl))), if_neg (hno ln_each (List.mem_of_getElem? (show libNames[10]? = some ln_each from rfl))), if_neg (hno ln_upto (List.mem_of_getElem? (show libNames[11]? = some ln_upto from rfl))), if_neg (hno ln_shows (List.mem_of_getElem? (show libNames[12]? = some ln_shows from rfl)))]) h
theorem libs_lib : ∀ n ∈ libNames, isLib n := by
  intro n hn
  simp only [libNames, List.mem_cons, List.not_mem_nil, or_false] at hn
  rcases hn with rfl | rfl | rfl | rfl | rfl | rfl | rfl | rfl | rfl | rfl | rfl | rfl | rfl <;> (unfold isLib; decide)
theorem nodup_sub : ∀ (l m : List ByteArray), l.Nodup → (∀ x ∈ l, x ∈ m) → l.length ≤ m.length
  | [], m, _, _ => Nat.zero_le _
  | x :: l, m, hd, hs => by
    obtain ⟨h1, h2⟩ := List.nodup_cons.1 hd
    have hx := hs x (by simp)
    obtain ⟨s, t, rfl⟩ := List.append_of_mem hx
    have h3 := nodup_sub l (s ++ t) h2 fun y hy => by
      have h4 := hs y (by simp [hy])
      rw [List.mem_append, List.mem_cons] at h4
      rw [List.mem_append]
      rcases h4 with h4 | rfl | h4
      · exact .inl h4
      · exact absurd hy h1
      · exact .inr h4
    simp only [List.length_cons, List.length_append] at h3 ⊢
    omega
theorem nodup_libs_len {met : List ByteArray} (hd : met.Nodup) (hl : ∀ n ∈ met, isLib n) : met.length ≤ 13 := nodup_sub met libNames hd fun n hn => lib_mem (hl n hn)
theorem nodup_libs_lt {met : List ByteArray} {n : ByteArray} (hd : met.Nodup) (hl : ∀ n ∈ met, isLib n) (hn : n ∉ met) (hnl : isLib n) : met.length < 13 := by
  have := nodup_libs_len (met := n :: met) (List.nodup_cons.2 ⟨hn, hd⟩) (fun m hm => by rcases List.mem_cons.1 hm with rfl | h; exact hnl; exact hl m h)
  rw [List.length_cons] at this
  omega
theorem usesT_len (n : ByteArray) : (usesT n).length ≤ 13 := by
  unfold usesT
  split
  · exact usesX_len n _ libNames
  · exact Nat.zero_le _
end Go.Proofs.YtcjoheplilaccaaGreat
