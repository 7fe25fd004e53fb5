/- Parts of the proof, merged: Reach4. -/
import Derived.Test.YtfobkbjabenkkaaGreatPe33
/- Reached: where an instruction leads to, the reference's. -/
namespace Go.Proofs.YtfobkbjabenkkaaGreat
open Go.RowKit
set_option linter.unusedVariables false
set_option linter.unusedSimpArgs false
attribute [local go_sem] Ext.cell

theorem own_one (w : World) (a : Int) (ha : I64 a) (lo : Nat) (h : lo ≤ w.heap.size) : OwnF 3 1 intRow I64 lo (w.alloc (.cells #[.int .i64 a] 3)) (.slice (some ⟨w.heap.size, 0, none⟩) 1 1) [a] :=
  ⟨own_new w #[.int .i64 a] 3 1 1 rfl (by decide) lo h, fun x hx => by simp at hx; subst hx; exact ha⟩
set_option maxHeartbeats 4000000 in
theorem specTargets_own (x : GIns) (r : List Value) (lo : Nat) (w : World) (hr : GIns.R lo w r x) :
    Calls Tryz.prog 64 #[.agg r.toArray] w fun e w' => ∃ v, e = .returned v ∧ OwnF 3 1 intRow I64 w.heap.size w' v (tgtP x) ∧ Below w.heap.size w w' := by
  obtain ⟨op, a, b, s⟩ := x
  obtain ⟨rfl, ho, ha, hb, hs⟩ := hr
  dsimp only at *
  unfold tgtP
  dsimp only
  cases h1 : leadsP op
  · rw [if_neg (by decide)]
    obtain ⟨h8, h9, h12, h13, h18⟩ := leadsP_not h1
    by_cases h2 : op = 20
    · rw [if_pos h2]
      subst h2
      go_enter Tryz.func64, Tryz.ntmps64
      go_wp2_with fail
      go_returns
      refine ⟨_, rfl, ?_, by go_grown⟩
      have h := own_one (w.alloc (.cells #[.int .i64 20, .int .i64 a, .int .i64 b, .string s] 57)) b hb w.heap.size (by simp)
      simpa using h
    · rw [if_neg h2]
      have d2 : (op == 20) = false := by simpa using h2
      clear h1
      go_enter Tryz.func64, Tryz.ntmps64
      go_wp2_with fail
      go_returns
      refine ⟨_, rfl, ?_, by go_grown⟩
      first | exact OwnF.empty | exact ⟨own_empty_at (by exact heap_alloc_new' _ _ _ (by simp)) (by simp), fun x hx => by cases hx⟩
  · rw [if_pos rfl]
    rcases leadsP_cases h1 with rfl | rfl | rfl | rfl | rfl
    all_goals
      clear h1
      go_enter Tryz.func64, Tryz.ntmps64
      go_wp2_with fail
      go_returns
      refine ⟨_, rfl, ?_, by go_grown⟩
      have h := fun (o : Int) => own_one (w.alloc (.cells #[.int .i64 o, .int .i64 a, .int .i64 b, .string s] 57)) a ha w.heap.size (by simp)
      first | simpa using h 8 | simpa using h 9 | simpa using h 12 | simpa using h 13 | simpa using h 18

set_option maxRecDepth 100000 in
set_option maxHeartbeats 16000000 in
theorem l18Next_c (is : List GIns) (ia pa : Option Addr) (n m ic pc lo : Nat) (hn : n = is.length) (hns : n ≤ 1048576) (k : Nat) (hk : k < n) (hin : ∀ t ∈ tgtP (insAt is (k : Int)), ∃ j : Nat, t = (j : Int) ∧ j < is.length) (w : World) (h0 : SlAt GIns.R 4 lo w ia is) :
    Calls Tryz.prog 65 #[.agg #[.slice ia n ic, .slice pa m pc], .int .i64 (k : Int)] w fun e w' => ∃ v, e = .returned (.tuple #[v, .bool (okP is k)]) ∧ OwnF 3 1 intRow I64 w.heap.size w' v ((nxP is k).map fun (j : Nat) => (j : Int)) ∧ Below w.heap.size w w' := by
  have hns' := @nxP_stay is k
  have hng' := @nxP_go is k
  have hnsx := fun h => hns' h hin
  have hngx := fun h => hng' h hin
  clear hns' hng' hin
  replace hn := Lib.hid hn; replace hnsx := Lib.hid hnsx; replace hngx := Lib.hid hngx; replace h0 := Lib.hid h0
  obtain ⟨iJ, hi0, hz0, hz1, hz2⟩ := info_parts info_IntS; have IJ := Lib.hid hi0; have IJ0 := Lib.hid hz0; have IJ1 := Lib.hid hz1; have IJ2 := Lib.hid hz2; clear hi0 hz0 hz1 hz2
  go_enter Tryz.func65, Tryz.ntmps65
  go_upto_region 1 with fail
  have C : RowAt (w.alloc (.cells #[.slice ia n ic, .slice pa m pc] 30)) (w.heap.size) 0 [.slice ia n ic, .slice pa m pc] := RowAt.box w #[.slice ia n ic, .slice pa m pc] 30
  have hw : Below w.heap.size w (w.alloc (.cells #[.slice ia n ic, .slice pa m pc] 30)) := by go_grown
  generalize (w.alloc (.cells #[.slice ia n ic, .slice pa m pc] 30)) = w0 at *
  obtain ⟨c_0, c_1⟩ := C.box2; have hsC := World.block_lt_of_cell? _ _ c_0; dsimp only at hsC
  obtain ⟨b1, o1, x, s1, _, hab, P1, ⟨rfl, hxw⟩, r1⟩ := (h0.out.below GIns.good hw).get hn hk
  obtain ⟨e_0, e_1, e_2, e_3⟩ := r1.cells4
  have hx : insAt is (k : Int) = x := by unfold insAt; rw [Int.toNat_natCast, P1.out]; rfl
  rw [hx] at hnsx hngx
  obtain ⟨op, a, b, s⟩ := x
  dsimp only at *
  subst hab
  have cT := specTargets_own ⟨op, a, b, s⟩ _ lo w0 ⟨rfl, hxw⟩
  clear r1 hx
  replace cT := Lib.hid cT; replace hxw := Lib.hid hxw
  have hz0 := hw.size
  have hs0 := hsC
  go_upto_region 2 with (go_at_call 64; (with_reducible refine (cT.out).mono ?_); rintro e w1 ⟨tv, rfl, hT, hb⟩)
  obtain ⟨ta, tc, rfl⟩ := hT.form
  have hw1 := hw.trans (hb.mono hw.size)
  have C1 := C.below hb
  have hz1 := hb.size
  obtain ⟨b2, o2, x2, s2, _, hab, P2, ⟨rfl, -⟩, r2⟩ := (h0.out.below GIns.good hw1).get hn hk
  obtain ⟨rfl, rfl⟩ : b1 = b2 ∧ o1 = o2 := by injection hab with h; injection h with h1 h2; exact ⟨h1, h2⟩
  obtain rfl : x2 = ⟨op, a, b, s⟩ := by have h1 := P1.out; rw [P2.out] at h1; exact Option.some.inj h1
  obtain ⟨f_0, f_1, f_2, f_3⟩ := r2.cells4
  dsimp only at f_0 f_1 f_2 f_3
  clear r2 hb C c_0 c_1 hsC e_0 e_1 e_2 e_3 cT P1 P2 hab hw
  have cG := specGoesOn_c ⟨op, a, b, s⟩ _ lo w1 ⟨rfl, hxw.out⟩
  dsimp only at cG
  have hl8 := hnsx.out; have hl9 := hngx.out
  have htl := tgt_len ⟨op, a, b, s⟩
  generalize tgtP ⟨op, a, b, s⟩ = ts at *
  obtain ⟨nt, hnt⟩ : ∃ x, x = ts.length := ⟨_, rfl⟩
  have hT' := hT
  have hO := hT.1
  have hwf := hT.2
  rw [← hnt] at hO htl ⊢
  clear hnsx hngx hT
  replace hnt := Lib.hid hnt; replace hT' := Lib.hid hT'; replace hwf := Lib.hid hwf
  obtain ⟨c1_0, c1_1⟩ := C1.box2; have hsC1 := World.block_lt_of_cell? _ _ c1_0; dsimp only at hsC1
  cases hg : goesOn op
  · obtain ⟨hl1, hl2⟩ := hl8 hg
    rw [hg] at cG
    replace hl1 := Lib.hid hl1; replace hl2 := Lib.hid hl2
    replace cG := Lib.hid cG; replace hg := Lib.hid hg
    clear hl8 hl9
    go_wp2_with (go_at_call 91; (with_reducible refine (cG.out).mono ?_); rintro e w2 ⟨rfl, hb⟩)
    go_returns
    rw [hl1.out, hl2.out]
    exact ⟨_, rfl, by have h := (hT'.out.below hb).mono hz0; rw [← hnt.out] at h; exact h, hw1.trans (hb.mono hw1.size)⟩
  · obtain ⟨hl1, hl2⟩ := hl9 hg
    rw [hg] at cG
    rw [← hn.out] at hl2
    replace hl1 := Lib.hid hl1; replace hl2 := Lib.hid hl2
    replace cG := Lib.hid cG; replace hg := Lib.hid hg
    have hk65 : I64 ((k : Int) + 1) := by constructor <;> omega
    clear hl8 hl9
    replace hk65 := Lib.hid hk65
    go_upto_region 3 with (go_at_call 91; (with_reducible refine (cG.out).mono ?_); rintro e w2 ⟨rfl, hb⟩; have C2 := C1.below hb; have hw2 := hw1.trans (hb.mono hw1.size); have hO2 := own_below hO hb; have hz2 := hb.size; clear hb)
    go_upto_region 4 with (at_builtin; refine wpList_append_lies _ rfl _ _ _ rfl (w0.heap.size) 3 iJ _ 1 8 Tryz.underlying60 IJ.out IJ0.out IJ1.out IJ2.out rfl (by omega) (.slice ta nt tc) (nt) (rowsOf intRow ts) rfl (own_below hO2 (by go_grown)) ⟨w2.heap.size, 0, none⟩ 1 1 [.int .i64 ((k : Int) + 1)] rfl rfl (World.news_of_block (cs := #[.int .i64 ((k : Int) + 1)]) (t := 3) (fr := (0, 0)) (heap_alloc_new' _ _ _ (by simp))) (by intro u hu; simp at hu; (first | (subst hu; rfl) | (rcases hu with rfl | rfl | rfl | rfl <;> rfl) | (rcases hu with rfl | rfl | rfl | rfl | rfl | rfl | rfl | rfl | rfl <;> rfl))) (by omega) (by unfold maxLen; omega) (by omega) (by simp; omega) _ rfl ?_; intro g3 cap3 w3 hown hgrow hat hlt2)
    have hO3 := ints_snoc hnt.out.symm hown hwf.out hk65.out
    have hw3 : Below w.heap.size w w3 := below_grown2 (wr := w2) (w := w) (base := w.heap.size) hgrow (by go_grown) hw2 hw2.size (own_lo hO2 hz0)
    have hta := own_base hO2
    have C3 := C2.kept (kept_of hgrow (w := w2) (by go_grown)) (fun h => by have := (hta _ h.symm).1; omega)
    replace hO3 := Lib.hid hO3
    clear hown hgrow hat hlt2 hO2 hO hT' C1 C2 c1_0 c1_1 hsC1 hta
    have hwr : IntKind.i64.wrap ((k : Int) + 1) = (k : Int) + 1 := IntWalk.i64_in _ (by omega)
    have d1 : decide (IntKind.i64.wrap ((k : Int) + 1) < (n : Int)) = decide (k + 1 < n) := by rw [hwr]; congr 1; simp; omega
    replace hwr := Lib.hid hwr; replace d1 := Lib.hid d1
    obtain ⟨c3_0, c3_1⟩ := C3.box2; have hsC3 := World.block_lt_of_cell? _ _ c3_0; dsimp only at hsC3
    go_region_law (fail)
    all_goals
      go_wp2_with fail
      go_returns
      rw [hl1.out, hl2.out]
      have hdr : Below w3.heap.size w3 w3.drew := by go_grown
      rw [← d1.out]
      exact ⟨_, rfl, (hO3.out.below hdr).mono hz0, hw3.trans (hdr.mono hw3.size)⟩

end Go.Proofs.YtfobkbjabenkkaaGreat
