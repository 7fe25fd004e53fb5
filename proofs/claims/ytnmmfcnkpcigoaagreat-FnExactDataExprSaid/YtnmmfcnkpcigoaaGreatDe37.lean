/- Parts of the proof, merged: Dx4. -/
import Derived.Test.YtnmmfcnkpcigoaaGreatDe36
/- The reference's l21Expr: its walk. -/
namespace Go.Proofs.YtnmmfcnkpcigoaaGreat
open Go.RowKit
set_option linter.unusedVariables false
set_option linter.unusedSimpArgs false
attribute [local go_sem] Ext.cell

def LxPost (f : Nat) (w : World) (t : ExT) (e : Ending) (w' : World) : Prop :=
  ∃ r', e = .returned (.agg r'.toArray) ∧ EV (f + 1) (fun b => w.heap.size ≤ b) w' r' t ∧ Below w.heap.size w w'
theorem KidsV.nilAt {w : World} {base g : Nat} {T : TypeId} (f : Nat) (h : w.heap[g]? = some (.cells #[] T (0, 0))) (hb : base ≤ g) : KidsV w base T f [] [] (.slice (some ⟨g, 0, none⟩) 0 0) :=
  ⟨rfl, fun r h => (by cases h), own_empty_at h hb, fun i p t (h : ([] : List (List Value))[i]? = some p) => by simp at h⟩
theorem row7 {w : World} {b : Nat} {a0 a1 a2 a3 a4 a5 a6 : Value} (h : RowAt w b 0 [a0, a1, a2, a3, a4, a5, a6]) (v0 v1 v2 v3 v4 v5 v6 : Value) : RowAt (((((((w.setCell ⟨b, 0, none⟩ v0).setCell ⟨b, 1, none⟩ v1).setCell ⟨b, 2, none⟩ v2).setCell ⟨b, 3, none⟩ v3).setCell ⟨b, 4, none⟩ v4).setCell ⟨b, 5, none⟩ v5).setCell ⟨b, 6, none⟩ v6) b 0 [v0, v1, v2, v3, v4, v5, v6] :=
  ((((((h.putAt (j := 0) (by simp) v0).putAt (j := 1) (by simp) v1).putAt (j := 2) (by simp) v2).putAt (j := 3) (by simp) v3).putAt (j := 4) (by simp) v4).putAt (j := 5) (by simp) v5).putAt (j := 6) (by simp) v6
theorem ret_sub {fn : Func} {tmps : Array Value} {a g : Nat} {v0 v1 v2 v3 v4 v5 v6 : Value} {w : World} (hf : fn.results = #[.cell a 50]) (hp : tmps.getD a undef = .pointer (some ⟨g, 0, none⟩)) (h : RowAt w g 0 [v0, v1, v2, v3, v4, v5, v6]) :
    (results fn tmps).run Tryz.prog w = .ok (.agg #[v0, v1, v2, v3, v4, v5, v6]) w := by
  have hp' : tmps[a]?.getD undef = .pointer (some ⟨g, 0, none⟩) := by simpa using hp
  obtain ⟨h0, h1, h2, h3, h4, h5, h6⟩ := h.box7
  simp [results, hf, go_sem, hp', h0, h1, h2, h3, h4, h5, h6]
/-- The result stands in a box that only the call knows. -/
theorem LxPost.fin {f F b lo : Nat} {w w1 W : World} {t : ExT} {r : List Value} (hE : EV F (fun q => lo ≤ q) w1 r t) (hF : F ≤ f + 1) (hK : Kept (· = b) w1 W) (hb : b < lo) (hlo : w.heap.size ≤ lo) (hB : Below w.heap.size w W) : LxPost f w t (.returned (.agg r.toArray)) W :=
  ⟨r, rfl, (((hE.kept hK (fun q h e => by omega)).mono hF).to (Same.below (Below.refl _ _)) fun q h _ => Nat.le_trans hlo h), hB⟩

set_option maxRecDepth 100000 in
set_option maxHeartbeats 16000000 in
theorem l21Expr_c (d : GData) (hU : Up d.nodes) (hL : d.nodes.length ≤ 600) : ∀ (f i : Nat), i < d.nodes.length → d.nodes.length ≤ i + f → DOkS f (treeOf d.nodes f i) → ∀ (r : List Value) (lo : Nat) (w : World), GData.R lo w r d →
    Calls Tryz.prog 16 #[.agg r.toArray, .int .i64 i] w (LxPost f w (dExprS (treeOf d.nodes f i)))
  | 0, i, hi, hf, _ => absurd hf (by omega)
  | f + 1, i, hi, hf, hT => fun r lo w hr => by
    have ih := l21Expr_c d hU hL f
    have Hr := hr
    obtain ⟨u, rfl, -, hs⟩ := hr
    obtain ⟨ua, uc, rfl, ul, um, h0⟩ := hs
    obtain ⟨b1, o1, x, s1, _, rfl, P1, hx, r1⟩ := h0.get (Lib.hid rfl) hi
    have P1 := P1.out
    rw [treeOf_some P1] at hT ⊢
    have hup := hU i x P1
    obtain ⟨kd, nn, s, ks⟩ := x
    obtain ⟨u0, rfl, hwf, hkd⟩ := hx
    obtain ⟨ka, kc, rfl, kl, km, k0⟩ := hkd
    obtain ⟨-, hsh, hTk⟩ := hT
    dsimp only at *
    unfold DSh at hsh
    simp only [PxT.kind, PxT.n, PxT.s, PxT.kids, List.length_map] at hsh hTk
    have hdx := dExprS_mk kd nn s (ks.map fun k => treeOf d.nodes f k.toNat)
    rw [dExprSs_map, List.map_map] at hdx
    generalize dExprS (.mk kd nn s (ks.map fun k => treeOf d.nodes f k.toNat)) = X at *
    obtain ⟨m, hm⟩ : ∃ m, m = ks.length := ⟨_, rfl⟩
    rw [← hm] at r1 kl
    have hs64 : StrOk s := hwf.2.2
    have hn64 : I64 nn := hwf.2.1
    have hm2 : m ≤ 2 := by
      rcases hsh with ⟨_, _, h⟩ | ⟨_, _, h, _⟩ | ⟨_, _, _, h⟩ | ⟨_, _, _, h⟩ | ⟨_, _, h⟩
      · have := congrArg List.length h; rw [List.length_map] at this; simp only [List.length_nil] at this; omega
      · have := congrArg List.length h; rw [List.length_map] at this; simp only [List.length_nil] at this; omega
      · have := congrArg List.length h; rw [List.length_map] at this; simp only [List.length_nil] at this; omega
      · omega
      · omega
    obtain ⟨e_0, e_1, e_2, e_3⟩ := r1.cells4
    have hb1 := World.block_lt_of_cell? _ _ e_0; dsimp only at hb1
    have hkm : ∀ k ∈ ks, DOkS f (treeOf d.nodes f k.toNat) := fun k hk => hTk _ (List.mem_map.2 ⟨k, hk, rfl⟩)
    replace hm := Lib.hid hm; replace k0 := Lib.hid k0; replace hup := Lib.hid hup; replace ih := Lib.hid ih; replace hsh := Lib.hid hsh; replace hkm := Lib.hid hkm; replace Hr := Lib.hid Hr; replace hdx := Lib.hid hdx
    clear r1 P1 h0 hU hTk
    generalize hn : d.nodes.length = n at *
    replace hn := Lib.hid hn
    obtain ⟨iJ, hi0, hz0, hz1, hz2⟩ := info_parts info_l03Sub; have IJ := Lib.hid hi0; have IJ0 := Lib.hid hz0; have IJ1 := Lib.hid hz1; have IJ2 := Lib.hid hz2; clear hi0 hz0 hz1 hz2
    show Calls Tryz.prog 16 #[.agg #[.slice (some ⟨b1, o1, none⟩) n uc], .int .i64 i] w _
    generalize hP : LxPost (f + 1) w X = P
    have hpost : ∀ (F b lo : Nat) (w1 W : World) (r : List Value), EV F (fun q => lo ≤ q) w1 r X → F ≤ f + 2 → Kept (· = b) w1 W → b < lo → w.heap.size ≤ lo → Below w.heap.size w W → P (.returned (.agg r.toArray)) W := fun F b lo w1 W r h1 h2 h3 h4 h5 h6 => by rw [← hP]; exact LxPost.fin h1 h2 h3 h4 h5 h6
    clear hP
    replace hpost := Lib.hid hpost
    go_enter Tryz.func16, Tryz.ntmps16
    go_upto_region 2 with fail
    have D : RowAt (w.alloc (.cells #[.slice (some ⟨b1, o1, none⟩) n uc] 34)) (w.heap.size) 0 [.slice (some ⟨b1, o1, none⟩) n uc] := RowAt.box w #[.slice (some ⟨b1, o1, none⟩) n uc] 34
    have D := D.below (show Below (w.alloc (.cells #[.slice (some ⟨b1, o1, none⟩) n uc] 34)).heap.size (w.alloc (.cells #[.slice (some ⟨b1, o1, none⟩) n uc] 34)) ((w.alloc (.cells #[.slice (some ⟨b1, o1, none⟩) n uc] 34)).alloc (.cells #[.int .i64 0, .int .i64 0, .int .i64 0, .string ⟨#[]⟩, .slice none 0 0, .slice none 0 0, .slice none 0 0] 50)) by go_grown)
    have R : RowAt ((w.alloc (.cells #[.slice (some ⟨b1, o1, none⟩) n uc] 34)).alloc (.cells #[.int .i64 0, .int .i64 0, .int .i64 0, .string ⟨#[]⟩, .slice none 0 0, .slice none 0 0, .slice none 0 0] 50)) (w.heap.size + 1) 0 [.int .i64 0, .int .i64 0, .int .i64 0, .string ⟨#[]⟩, .slice none 0 0, .slice none 0 0, .slice none 0 0] := by have h := RowAt.box (w.alloc (.cells #[.slice (some ⟨b1, o1, none⟩) n uc] 34)) #[.int .i64 0, .int .i64 0, .int .i64 0, .string ⟨#[]⟩, .slice none 0 0, .slice none 0 0, .slice none 0 0] 50; simp only [World.size_alloc] at h; exact h
    have RW : Wr ((w.alloc (.cells #[.slice (some ⟨b1, o1, none⟩) n uc] 34)).alloc (.cells #[.int .i64 0, .int .i64 0, .int .i64 0, .string ⟨#[]⟩, .slice none 0 0, .slice none 0 0, .slice none 0 0] 50)) (w.heap.size + 1) 0 7 := by have h := Wr.box (w.alloc (.cells #[.slice (some ⟨b1, o1, none⟩) n uc] 34)) #[.int .i64 0, .int .i64 0, .int .i64 0, .string ⟨#[]⟩, .slice none 0 0, .slice none 0 0, .slice none 0 0] 50; simp only [World.size_alloc] at h; exact h
    have D := D.below (show Below ((w.alloc (.cells #[.slice (some ⟨b1, o1, none⟩) n uc] 34)).alloc (.cells #[.int .i64 0, .int .i64 0, .int .i64 0, .string ⟨#[]⟩, .slice none 0 0, .slice none 0 0, .slice none 0 0] 50)).heap.size ((w.alloc (.cells #[.slice (some ⟨b1, o1, none⟩) n uc] 34)).alloc (.cells #[.int .i64 0, .int .i64 0, .int .i64 0, .string ⟨#[]⟩, .slice none 0 0, .slice none 0 0, .slice none 0 0] 50)) (((w.alloc (.cells #[.slice (some ⟨b1, o1, none⟩) n uc] 34)).alloc (.cells #[.int .i64 0, .int .i64 0, .int .i64 0, .string ⟨#[]⟩, .slice none 0 0, .slice none 0 0, .slice none 0 0] 50)).alloc (.cells #[.int .i64 kd, .int .i64 nn, .string s, .slice ka m kc] 69)) by go_grown)
    have R := R.below (show Below ((w.alloc (.cells #[.slice (some ⟨b1, o1, none⟩) n uc] 34)).alloc (.cells #[.int .i64 0, .int .i64 0, .int .i64 0, .string ⟨#[]⟩, .slice none 0 0, .slice none 0 0, .slice none 0 0] 50)).heap.size ((w.alloc (.cells #[.slice (some ⟨b1, o1, none⟩) n uc] 34)).alloc (.cells #[.int .i64 0, .int .i64 0, .int .i64 0, .string ⟨#[]⟩, .slice none 0 0, .slice none 0 0, .slice none 0 0] 50)) (((w.alloc (.cells #[.slice (some ⟨b1, o1, none⟩) n uc] 34)).alloc (.cells #[.int .i64 0, .int .i64 0, .int .i64 0, .string ⟨#[]⟩, .slice none 0 0, .slice none 0 0, .slice none 0 0] 50)).alloc (.cells #[.int .i64 kd, .int .i64 nn, .string s, .slice ka m kc] 69)) by go_grown)
    have RW := RW.below (show Below ((w.alloc (.cells #[.slice (some ⟨b1, o1, none⟩) n uc] 34)).alloc (.cells #[.int .i64 0, .int .i64 0, .int .i64 0, .string ⟨#[]⟩, .slice none 0 0, .slice none 0 0, .slice none 0 0] 50)).heap.size ((w.alloc (.cells #[.slice (some ⟨b1, o1, none⟩) n uc] 34)).alloc (.cells #[.int .i64 0, .int .i64 0, .int .i64 0, .string ⟨#[]⟩, .slice none 0 0, .slice none 0 0, .slice none 0 0] 50)) (((w.alloc (.cells #[.slice (some ⟨b1, o1, none⟩) n uc] 34)).alloc (.cells #[.int .i64 0, .int .i64 0, .int .i64 0, .string ⟨#[]⟩, .slice none 0 0, .slice none 0 0, .slice none 0 0] 50)).alloc (.cells #[.int .i64 kd, .int .i64 nn, .string s, .slice ka m kc] 69)) by go_grown)
    have N : RowAt (((w.alloc (.cells #[.slice (some ⟨b1, o1, none⟩) n uc] 34)).alloc (.cells #[.int .i64 0, .int .i64 0, .int .i64 0, .string ⟨#[]⟩, .slice none 0 0, .slice none 0 0, .slice none 0 0] 50)).alloc (.cells #[.int .i64 kd, .int .i64 nn, .string s, .slice ka m kc] 69)) (w.heap.size + 1 + 1) 0 [.int .i64 kd, .int .i64 nn, .string s, .slice ka m kc] := by have h := RowAt.box ((w.alloc (.cells #[.slice (some ⟨b1, o1, none⟩) n uc] 34)).alloc (.cells #[.int .i64 0, .int .i64 0, .int .i64 0, .string ⟨#[]⟩, .slice none 0 0, .slice none 0 0, .slice none 0 0] 50)) #[.int .i64 kd, .int .i64 nn, .string s, .slice ka m kc] 69; simp only [World.size_alloc] at h; exact h
    have hw : Below w.heap.size w (((w.alloc (.cells #[.slice (some ⟨b1, o1, none⟩) n uc] 34)).alloc (.cells #[.int .i64 0, .int .i64 0, .int .i64 0, .string ⟨#[]⟩, .slice none 0 0, .slice none 0 0, .slice none 0 0] 50)).alloc (.cells #[.int .i64 kd, .int .i64 nn, .string s, .slice ka m kc] 69)) := by go_grown
    generalize (((w.alloc (.cells #[.slice (some ⟨b1, o1, none⟩) n uc] 34)).alloc (.cells #[.int .i64 0, .int .i64 0, .int .i64 0, .string ⟨#[]⟩, .slice none 0 0, .slice none 0 0, .slice none 0 0] 50)).alloc (.cells #[.int .i64 kd, .int .i64 nn, .string s, .slice ka m kc] 69)) = w0 at *
    go_upto_region 3 with fail
    have hsN0 : w.heap.size + 2 < w0.heap.size := World.block_lt_of_cell? _ _ N.box4.1
    obtain ⟨w1, hW1⟩ : ∃ W, W = w0.alloc (.cells #[] 50) := ⟨_, rfl⟩
    rw [← hW1]
    have hb1w : Below w0.heap.size w0 w1 := by rw [hW1]; go_grown
    have hw1 := hw.trans (hb1w.mono hw.size)
    have KV : KidsV w1 w0.heap.size 50 (f + 1) [] [] (.slice (some ⟨w0.heap.size, 0, none⟩) 0 0) := KidsV.nilAt _ (by rw [hW1]; exact heap_alloc_new' _ _ _ rfl) (Nat.le_refl _)
    have hz1 : w0.heap.size < w1.heap.size := by rw [hW1]; simp
    have D1 := D.below hb1w
    have R1 := R.below hb1w
    have RW1 := RW.below hb1w
    have N1 := N.below hb1w
    obtain ⟨bK, hbK⟩ : ∃ b, b = w0.heap.size := ⟨_, rfl⟩
    rw [← hbK] at KV hz1 hsN0 ⊢
    clear hW1 hb1w D R RW N hw
    replace hbK := Lib.hid hbK; replace KV := Lib.hid KV
    obtain ⟨n1_0, n1_1, n1_2, n1_3⟩ := N1.box4; have hsN1 := World.block_lt_of_cell? _ _ n1_0; dsimp only at hsN1
    go_wp2_with fail
    go_loopw [6, 20] (fun vv ii wr => ∃ (j : Nat) (v : Value) (rss : List (List Value)), j ≤ m ∧ vv = v ∧ ii = .int .i64 j ∧ Below w.heap.size w wr ∧ RowAt wr w.heap.size 0 [.slice (some ⟨b1, o1, none⟩) n uc] ∧ RowAt wr (w.heap.size + 1) 0 [.int .i64 0, .int .i64 0, .int .i64 0, .string ⟨#[]⟩, .slice none 0 0, .slice none 0 0, .slice none 0 0] ∧ Wr wr (w.heap.size + 1) 0 7 ∧ RowAt wr (w.heap.size + 1 + 1) 0 [.int .i64 kd, .int .i64 nn, .string s, .slice ka m kc] ∧
        Hid (KidsV wr bK 50 (f + 1) rss ((ks.take j).map (dExprS ∘ fun k => treeOf d.nodes f k.toNat)) v) ∧ bK < wr.heap.size) (fun _ ii _ => m - (intOf ii).toNat)
    case atStart => exact ⟨0, _, [], by omega, rfl, rfl, hw1, D1, R1, RW1, N1, KV, hz1⟩
    case round =>
      clear KV hw1 D1 R1 RW1 N1 hz1 n1_0 n1_1 n1_2 n1_3 hsN1 e_0 e_1 e_2 e_3
      obtain ⟨j, v, rss, hj, rfl, rfl, hw, D, R, RW, N, hK, hz⟩ := hrel
      obtain ⟨ma, mcap, rfl⟩ := hK.out.form
      have hlen : ((ks.take j).map (dExprS ∘ fun k => treeOf d.nodes f k.toNat)).length = j := by have := hm.out; simp; omega
      rw [hlen] at hK ⊢
      have hwz := hw.size
      have d_0 := D.box1; have hsD := World.block_lt_of_cell? _ _ d_0; dsimp only at hsD; obtain ⟨n_0, n_1, n_2, n_3⟩ := N.box4; have hsN := World.block_lt_of_cell? _ _ n_0; dsimp only at hsN
      by_cases hjm : j < m
      · obtain ⟨b2, o2, k, s2, _, rfl, P2, ⟨rfl, hk64⟩, r2⟩ := ((k0.out.below IntR.good hw).get hm hjm)
        have e0 : wr.cell? ⟨b2, o2 + j, none⟩ = some (.int .i64 k) := by simpa using r2 0 _ rfl
        have hk := hup.out k (List.mem_of_getElem? P2.out)
        have hkD := hkm.out k (List.mem_of_getElem? P2.out)
        obtain ⟨q, rfl⟩ : ∃ q : Nat, k = q := ⟨k.toNat, by omega⟩
        rw [Int.toNat_natCast] at hkD
        have hst : (ks.take (j + 1)).map (dExprS ∘ fun k => treeOf d.nodes f k.toNat) = (ks.take j).map (dExprS ∘ fun k => treeOf d.nodes f k.toNat) ++ [dExprS (treeOf d.nodes f q)] := by rw [take_snoc' P2.out]; simp
        have hc := fun W (hW : Below w.heap.size w W) => ih.out q (by omega) (by omega) hkD _ lo W (GData.good.below Hr.out hW)
        have hown0 : wr.ownsRow bK 50 7 (.slice ma j mcap) j rss.flatten := by have h := hK.out.2.2.1; rw [hlen] at h; exact h
        have hne := own_base hown0
        have hbe := World.block_lt_of_cell? _ _ e0; dsimp only at hbe
        obtain ⟨tk, htk⟩ : ∃ t, t = dExprS (treeOf d.nodes f q) := ⟨_, rfl⟩
        rw [← htk] at hc hst
        replace htk := Lib.hid htk; replace hc := Lib.hid hc; replace hown0 := Lib.hid hown0; replace hne := Lib.hid hne; replace hst := Lib.hid hst; replace hlen := Lib.hid hlen
        clear r2 P2 hkD hk
        go_upto_region 7 with (first
          | (go_at_call 16; (with_reducible refine (hc.out _ hw).mono ?_); rintro e w7 ⟨r7, rfl, hE7, hb7⟩; obtain ⟨xa, xb, xc, pa, pc, qa, qc, rfl⟩ := hE7.form; have hz7 := hb7.size)
          | (at_builtin; refine wpList_append_lies _ rfl _ _ _ rfl (bK) 50 iJ _ 7 112 Tryz.underlying48 IJ.out IJ0.out IJ1.out IJ2.out rfl (by omega) (.slice ma j mcap) (j) (rss.flatten) rfl (own_below hown0.out (hb7.trans (Below.mono (by go_grown) hz7))) ⟨w7.heap.size, 0, none⟩ 1 1 [.int .i64 tk.kind, .int .i64 tk.at_, .int .i64 tk.n, .string tk.s, .slice xa xb xc, .slice pa tk.pats.length pc, .slice qa tk.kids.length qc] rfl rfl (World.news_of_block (cs := #[.int .i64 tk.kind, .int .i64 tk.at_, .int .i64 tk.n, .string tk.s, .slice xa xb xc, .slice pa tk.pats.length pc, .slice qa tk.kids.length qc]) (t := 50) (fr := (0, 0)) (heap_alloc_new' _ _ _ (by simp))) (by intro u hu; simp at hu; (first | (subst hu; rfl) | (rcases hu with rfl | rfl | rfl | rfl <;> rfl) | (rcases hu with rfl | rfl | rfl | rfl | rfl | rfl <;> rfl) | (rcases hu with rfl | rfl | rfl | rfl | rfl | rfl | rfl <;> rfl) | (rcases hu with rfl | rfl | rfl | rfl | rfl | rfl | rfl | rfl | rfl <;> rfl))) (by omega) (by unfold maxLen; omega) (by omega) (by simp; omega) _ rfl ?_; intro g2 cap2 w8 hown hgrow hat hlt2))
        have k8 := kept_of hgrow (w := wr) (hb7.trans (Below.mono (by go_grown) hz7))
        have hz8 := hgrow.size
        simp only [World.size_alloc] at hz8
        have hne' : ∀ b, b < bK → ¬ some b = (Value.slice ma j mcap).ownBlock := fun b hb e => by have := (hne.out b e.symm).1; omega
        have hK8 : Hid (KidsV w8 bK 50 (f + 1) (rss ++ [[.int .i64 tk.kind, .int .i64 tk.at_, .int .i64 tk.n, .string tk.s, .slice xa xb xc, .slice pa tk.pats.length pc, .slice qa tk.kids.length qc]]) ((ks.take (j + 1)).map (dExprS ∘ fun k => treeOf d.nodes f k.toNat)) (.slice (some ⟨g2, 0, none⟩) (j + 1) cap2)) := by
          show KidsV _ _ _ _ _ _ _
          rw [hst.out]
          exact KidsV.grow hK.out (by omega) hb7 (show Below w7.heap.size w7 (w7.alloc (.cells #[.int .i64 tk.kind, .int .i64 tk.at_, .int .i64 tk.n, .string tk.s, .slice xa xb xc, .slice pa tk.pats.length pc, .slice qa tk.kids.length qc] 50)) by go_grown) hE7 rfl hgrow (by simpa using hown) (by rw [hlen.out]) (by simpa using hat)
        have hB8 : Below w.heap.size w w8 := hw.trans ((below_grown2 (wr := wr) (base := bK) hgrow (hb7.trans (Below.mono (by go_grown) hz7)) (Below.refl _ wr) (by omega) hown0.out).mono (by omega))
        have D8 := D.kept k8 (hne' _ (by omega))
        have R8 := R.kept k8 (hne' _ (by omega))
        have RW8 := RW.kept k8 (hne' _ (by omega))
        have N8 := N.kept k8 (hne' _ (by omega))
        clear hgrow hown hat hlt2 k8 hK hE7 e0 d_0 hsD n_0 n_1 n_2 n_3 hsN
        go_wp2_with fail
        go_roundw
        case rel => exact ⟨j + 1, _, _, by omega, rfl, by go_num, hB8, D8, R8, RW8, N8, hK8, by omega⟩
        case measure => simp [intOf]; omega
      · obtain rfl : j = m := by omega
        have hfull : ks.take j = ks := List.take_of_length_le (by have := hm.out; omega)
        rw [hfull] at hK hlen
        have hsh := hsh.out
        have hdx := hdx.out
        have rf_0 := RW.frz 0 (by omega); have rf_1 := RW.frz 1 (by omega); have rf_2 := RW.frz 2 (by omega); have rf_3 := RW.frz 3 (by omega); have rf_4 := RW.frz 4 (by omega); have rf_5 := RW.frz 5 (by omega); have rf_6 := RW.frz 6 (by omega)
        obtain ⟨r_0, r_1, r_2, r_3, r_4, r_5, r_6⟩ := R.box7
        have hsR := World.block_lt_of_cell? _ _ r_0; dsimp only at hsR
        have hsh2 : (kd = 2 ∧ nn = 0 ∧ ks.map (dExprS ∘ fun k => treeOf d.nodes f k.toNat) = []) ∨ (kd = 3 ∧ s = ⟨#[]⟩ ∧ ks.map (dExprS ∘ fun k => treeOf d.nodes f k.toNat) = [] ∧ -4611686018427387904 ≤ nn ∧ nn ≤ 4611686018427387903) ∨ (kd = 6 ∧ nn = 0 ∧ s = ⟨#[]⟩ ∧ ks.map (dExprS ∘ fun k => treeOf d.nodes f k.toNat) = []) ∨ (kd = 5 ∧ nn = 0 ∧ s = ⟨#[]⟩) ∨ (kd = 4 ∧ nn = 0) := by
          rcases hsh with ⟨h1, h2, h3⟩ | ⟨h1, h2, h3, h4⟩ | ⟨h1, h2, h3, h4⟩ | ⟨h1, h2, h3, _⟩ | ⟨h1, h2, _⟩
          · exact .inl ⟨h1, h2, by rw [List.map_eq_nil_iff] at h3 ⊢; exact h3⟩
          · exact .inr (.inl ⟨h1, h2, by rw [List.map_eq_nil_iff] at h3 ⊢; exact h3, h4⟩)
          · exact .inr (.inr (.inl ⟨h1, h2, h3, by rw [List.map_eq_nil_iff] at h4 ⊢; exact h4⟩))
          · exact .inr (.inr (.inr (.inl ⟨h1, h2, h3⟩)))
          · exact .inr (.inr (.inr (.inr ⟨h1, h2⟩)))
        clear hsh hup ih hkm Hr k0
        have hbK2 : w.heap.size + 2 ≤ bK := by omega
        have fin : ∀ (F : Nat) (w9 : World) (row : List Value), EV F (fun q => w.heap.size + 2 ≤ q) w9 row X → F ≤ f + 2 → Below w.heap.size w w9 → P (.returned (.agg row.toArray)) (storeRow w9 (w.heap.size + 1) 0 row) := fun F w9 row h1 h2 h3 =>
          hpost.out F (w.heap.size + 1) (w.heap.size + 2) w9 _ row h1 h2 (kept_storeRow (w.heap.size + 1) row 0 (Kept.refl _ _)) (by omega) (by omega) (h3.trans ((below_storeRow (w.heap.size + 1) row w9 0).mono (by omega)))
        generalize hts : ks.map (dExprS ∘ fun k => treeOf d.nodes f k.toNat) = ts at *
        replace hlen := Lib.hid hlen; replace hfull := Lib.hid hfull; replace hts := Lib.hid hts; replace fin := Lib.hid fin
        clear hpost n_1 n_2
        have k11 : I64 11 := ⟨by decide, by decide⟩
        have k12 : I64 12 := ⟨by decide, by decide⟩
        have k2' : I64 2 := ⟨by decide, by decide⟩
        have k4' : I64 4 := ⟨by decide, by decide⟩
        obtain ⟨n_0, n_1, n_2, n_3⟩ := N.box4
        rcases hsh2 with ⟨rfl, rfl, hk⟩ | ⟨rfl, rfl, hk, hn1, hn2⟩ | ⟨rfl, rfl, rfl, hk⟩ | ⟨rfl, rfl, rfl⟩ | ⟨rfl, rfl⟩
        · rw [if_neg (by omega), hk, show dKind 2 = 2 from rfl] at hdx
          have hE := fun W => EV.leaf (f := 0) (S := fun q => w.heap.size + 2 ≤ q) (w := W) (a := none) (c := 0) (ewf (ks := []) (ps := []) k2' i64_0 i64_0 hs64) (Nat.zero_le _)
          rw [← hdx] at hE
          replace hdx := Lib.hid hdx; replace hE := Lib.hid hE
          go_wp2_with (go_at_call 36; (with_reducible refine (l03One_c 2 0 s none 0 0 wr).mono ?_); rintro e w9 ⟨rfl, hb9⟩; have R9 := R.below hb9; have RW9 := RW.below hb9; have rf_0 := RW9.frz 0 (by omega); have rf_1 := RW9.frz 1 (by omega); have rf_2 := RW9.frz 2 (by omega); have rf_3 := RW9.frz 3 (by omega); have rf_4 := RW9.frz 4 (by omega); have rf_5 := RW9.frz 5 (by omega); have rf_6 := RW9.frz 6 (by omega); obtain ⟨r_0, r_1, r_2, r_3, r_4, r_5, r_6⟩ := R9.box7; have hsR := World.block_lt_of_cell? _ _ r_0; dsimp only at hsR)
          refine bodyPost_ret (ret_sub (a := 4) Tryz.results16 rfl (row7 R9 (.int .i64 2) (.int .i64 0) (.int .i64 0) (.string s) (.slice none 0 0) (.slice none 0 0) (.slice none 0 0))) rfl ?_
          exact fin.out _ w9 _ (hE.out w9) (by omega) (hw.trans (hb9.mono hwz))
        · by_cases hneg : nn < 0
          · rw [if_pos hneg] at hdx
            have d1 : decide (0 ≤ nn) = false := decide_eq_false (by omega)
            have hwr : IntKind.i64.wrap (-nn) = -nn := IntWalk.i64_in _ (by omega)
            replace hdx := Lib.hid hdx
            obtain ⟨W3, hW3⟩ : ∃ W, W = ((wr.alloc (.cells #[.int .i64 1, .int .i64 0, .int .i64 0, .string ⟨#[]⟩, .slice none 0 0, .slice none 0 0, .slice none 0 0] 50)).alloc (.cells #[.int .i64 1, .int .i64 0, .int .i64 (-nn), .string ⟨#[]⟩, .slice none 0 0, .slice none 0 0, .slice none 0 0] 50)).alloc (.cells #[.int .i64 1, .int .i64 0, .int .i64 0, .string ⟨#[]⟩, .slice none 0 0, .slice none 0 0, .slice none 0 0, .int .i64 1, .int .i64 0, .int .i64 (-nn), .string ⟨#[]⟩, .slice none 0 0, .slice none 0 0, .slice none 0 0] 50) := ⟨_, rfl⟩
            have hbW : Below wr.heap.size wr W3 := by rw [hW3]; go_grown
            have C : RowAt W3 (wr.heap.size + 1 + 1) 0 [.int .i64 1, .int .i64 0, .int .i64 0, .string ⟨#[]⟩, .slice none 0 0, .slice none 0 0, .slice none 0 0, .int .i64 1, .int .i64 0, .int .i64 (-nn), .string ⟨#[]⟩, .slice none 0 0, .slice none 0 0, .slice none 0 0] := by
              rw [hW3]
              have h := RowAt.box ((wr.alloc (.cells #[.int .i64 1, .int .i64 0, .int .i64 0, .string ⟨#[]⟩, .slice none 0 0, .slice none 0 0, .slice none 0 0] 50)).alloc (.cells #[.int .i64 1, .int .i64 0, .int .i64 (-nn), .string ⟨#[]⟩, .slice none 0 0, .slice none 0 0, .slice none 0 0] 50)) #[.int .i64 1, .int .i64 0, .int .i64 0, .string ⟨#[]⟩, .slice none 0 0, .slice none 0 0, .slice none 0 0, .int .i64 1, .int .i64 0, .int .i64 (-nn), .string ⟨#[]⟩, .slice none 0 0, .slice none 0 0, .slice none 0 0] 50
              simp only [World.size_alloc] at h
              exact h
            have hE := fun W (hW : Below W3.heap.size W3 W) => EV.two (f := 1) (g := wr.heap.size + 1 + 1) (c := 2) (S := fun q => w.heap.size + 2 ≤ q) (w := W) (kd := 10) (at_ := 0) (nn := 0) (s := ⟨#[45]⟩) (q := [.int .i64 1, .int .i64 0, .int .i64 0, .string ⟨#[]⟩, .slice none 0 0, .slice none 0 0, .slice none 0 0]) (r := [.int .i64 1, .int .i64 0, .int .i64 (-nn), .string ⟨#[]⟩, .slice none 0 0, .slice none 0 0, .slice none 0 0]) (t := eLeaf 1 0 ⟨#[]⟩) (u := eLeaf 1 (-nn) ⟨#[]⟩) (ewf i64_10 i64_0 i64_0 strOk_minus) (by show _ ≤ _; omega) ⟨by omega, by omega⟩ (C.below hW) rfl (EV.leaf (ewf i64_1 i64_0 i64_0 strOk_nil) (Nat.zero_le _)) (EV.leaf (ewf i64_1 i64_0 ⟨by omega, by omega⟩ strOk_nil) (Nat.zero_le _))
            have hE' : ∀ W, Below W3.heap.size W3 W → EV 2 (fun q => w.heap.size + 2 ≤ q) W [.int .i64 10, .int .i64 0, .int .i64 0, .string ⟨#[45]⟩, .slice none 0 0, .slice none 0 0, .slice (some ⟨wr.heap.size + 1 + 1, 0, none⟩) 2 2] X := fun W hW => by rw [hdx.out]; exact hE W hW
            clear hE
            replace hE' := Lib.hid hE'; replace hW3 := Lib.hid hW3
            have hzW := hbW.size
            go_wp2_with (go_at_call 36; (with_reducible refine (l03One_c 10 0 ⟨#[45]⟩ (some ⟨wr.heap.size + 1 + 1, 0, none⟩) 2 2 _).mono ?_); rintro e w9 ⟨rfl, hb9⟩; have hb9' : Below W3.heap.size W3 w9 := (by rw [hW3.out]; exact hb9); have hbr9 := hbW.trans (hb9'.mono hzW); clear hb9; have R9 := R.below hbr9; have RW9 := RW.below hbr9; have rf_0 := RW9.frz 0 (by omega); have rf_1 := RW9.frz 1 (by omega); have rf_2 := RW9.frz 2 (by omega); have rf_3 := RW9.frz 3 (by omega); have rf_4 := RW9.frz 4 (by omega); have rf_5 := RW9.frz 5 (by omega); have rf_6 := RW9.frz 6 (by omega); obtain ⟨r_0, r_1, r_2, r_3, r_4, r_5, r_6⟩ := R9.box7; have hsR := World.block_lt_of_cell? _ _ r_0; dsimp only at hsR)
            refine bodyPost_ret (ret_sub (a := 4) Tryz.results16 rfl (row7 R9 (.int .i64 10) (.int .i64 0) (.int .i64 0) (.string ⟨#[45]⟩) (.slice none 0 0) (.slice none 0 0) (.slice (some ⟨wr.heap.size + 1 + 1, 0, none⟩) 2 2))) rfl ?_
            exact fin.out _ w9 _ (hE'.out w9 hb9') (by omega) (hw.trans (hbr9.mono hwz))
          · rw [if_neg hneg, hk, show dKind 3 = 1 from rfl] at hdx
            have d1 : decide (0 ≤ nn) = true := decide_eq_true (by omega)
            have hE := EV.leaf (f := 0) (S := fun q => w.heap.size + 2 ≤ q) (w := wr) (a := none) (c := 0) (ewf (ks := []) (ps := []) i64_1 i64_0 hn64 strOk_nil) (Nat.zero_le _)
            rw [← hdx] at hE
            replace hdx := Lib.hid hdx; replace hE := Lib.hid hE
            go_wp2_with fail
            refine bodyPost_ret (ret_sub (a := 4) Tryz.results16 rfl (row7 R (.int .i64 1) (.int .i64 0) (.int .i64 nn) (.string ⟨#[]⟩) (.slice none 0 0) (.slice none 0 0) (.slice none 0 0))) rfl ?_
            exact fin.out _ wr _ hE.out (by omega) hw
        · rw [if_neg (by omega), hk, show dKind 6 = 12 from rfl] at hdx
          have hE := fun W => EV.leaf (f := 0) (S := fun q => w.heap.size + 2 ≤ q) (w := W) (a := none) (c := 0) (ewf (ks := []) (ps := []) k12 i64_0 i64_0 strOk_nil) (Nat.zero_le _)
          rw [← hdx] at hE
          replace hdx := Lib.hid hdx; replace hE := Lib.hid hE
          go_wp2_with (go_at_call 36; (with_reducible refine (l03One_c 12 0 ⟨#[]⟩ none 0 0 wr).mono ?_); rintro e w9 ⟨rfl, hb9⟩; have R9 := R.below hb9; have RW9 := RW.below hb9; have rf_0 := RW9.frz 0 (by omega); have rf_1 := RW9.frz 1 (by omega); have rf_2 := RW9.frz 2 (by omega); have rf_3 := RW9.frz 3 (by omega); have rf_4 := RW9.frz 4 (by omega); have rf_5 := RW9.frz 5 (by omega); have rf_6 := RW9.frz 6 (by omega); obtain ⟨r_0, r_1, r_2, r_3, r_4, r_5, r_6⟩ := R9.box7; have hsR := World.block_lt_of_cell? _ _ r_0; dsimp only at hsR)
          refine bodyPost_ret (ret_sub (a := 4) Tryz.results16 rfl (row7 R9 (.int .i64 12) (.int .i64 0) (.int .i64 0) (.string ⟨#[]⟩) (.slice none 0 0) (.slice none 0 0) (.slice none 0 0))) rfl ?_
          exact fin.out _ w9 _ (hE.out w9) (by omega) (hw.trans (hb9.mono hwz))
        · rw [if_neg (by omega), show dKind 5 = 11 from rfl] at hdx
          have hE := KidsV.tree (lo := w.heap.size + 2) hK.out hbK2 (ewf (ps := []) k11 i64_0 i64_0 strOk_nil)
          rw [← hdx] at hE
          replace hdx := Lib.hid hdx; replace hE := Lib.hid hE
          go_wp2_with (go_at_call 36; (with_reducible refine (l03One_c 11 0 ⟨#[]⟩ ma j mcap wr).mono ?_); rintro e w9 ⟨rfl, hb9⟩; have R9 := R.below hb9; have RW9 := RW.below hb9; have rf_0 := RW9.frz 0 (by omega); have rf_1 := RW9.frz 1 (by omega); have rf_2 := RW9.frz 2 (by omega); have rf_3 := RW9.frz 3 (by omega); have rf_4 := RW9.frz 4 (by omega); have rf_5 := RW9.frz 5 (by omega); have rf_6 := RW9.frz 6 (by omega); obtain ⟨r_0, r_1, r_2, r_3, r_4, r_5, r_6⟩ := R9.box7; have hsR := World.block_lt_of_cell? _ _ r_0; dsimp only at hsR)
          refine bodyPost_ret (ret_sub (a := 4) Tryz.results16 rfl (row7 R9 (.int .i64 11) (.int .i64 0) (.int .i64 0) (.string ⟨#[]⟩) (.slice none 0 0) (.slice none 0 0) (.slice ma j mcap))) rfl ?_
          exact fin.out _ w9 _ (hE.out.below hb9) (by omega) (hw.trans (hb9.mono hwz))
        · rw [if_neg (by omega), show dKind 4 = 4 from rfl] at hdx
          have hE := KidsV.tree (lo := w.heap.size + 2) hK.out hbK2 (ewf (ps := []) k4' i64_0 i64_0 hs64)
          rw [← hdx] at hE
          replace hdx := Lib.hid hdx; replace hE := Lib.hid hE
          go_wp2_with (go_at_call 36; (with_reducible refine (l03One_c 4 0 s ma j mcap wr).mono ?_); rintro e w9 ⟨rfl, hb9⟩; have R9 := R.below hb9; have RW9 := RW.below hb9; have rf_0 := RW9.frz 0 (by omega); have rf_1 := RW9.frz 1 (by omega); have rf_2 := RW9.frz 2 (by omega); have rf_3 := RW9.frz 3 (by omega); have rf_4 := RW9.frz 4 (by omega); have rf_5 := RW9.frz 5 (by omega); have rf_6 := RW9.frz 6 (by omega); obtain ⟨r_0, r_1, r_2, r_3, r_4, r_5, r_6⟩ := R9.box7; have hsR := World.block_lt_of_cell? _ _ r_0; dsimp only at hsR)
          refine bodyPost_ret (ret_sub (a := 4) Tryz.results16 rfl (row7 R9 (.int .i64 4) (.int .i64 0) (.int .i64 0) (.string s) (.slice none 0 0) (.slice none 0 0) (.slice ma j mcap))) rfl ?_
          exact fin.out _ w9 _ (hE.out.below hb9) (by omega) (hw.trans (hb9.mono hwz))
end Go.Proofs.YtnmmfcnkpcigoaaGreat
