/- Parts of the proof, merged: Pr11, Pv, Lay. -/
import Derived.Deep.RegionHeld3
import Derived.Deep.RegionLaw
import Derived.Test.YtcjoheplilaccaaGreatLt16
/- The program's parser: an atom of a pattern. -/
namespace Go.Proofs.YtcjoheplilaccaaGreat
open Go.RowKit
set_option linter.unusedVariables false
set_option linter.unusedSimpArgs false
attribute [local go_sem] Ext.cell

theorem info_strP : (Tryz.prog.info? 9).map (fun i => (i.zero, i.size, i.bytes)) = some (some (.string ⟨#[]⟩), 1, 16) := by kernel_rfl
/-- The pattern's names grow by one. -/
theorem names_grow {C : PC} {b i n g cap : Nat} {w w1 w2 : World} {va : Option Addr} {vc : Nat} {ns : List ByteArray} {s : ByteArray} (P : PS C b w i (.slice va n vc) ns) (hn : n = ns.length) (hi : n + 1 ≤ i) (hs : StrOk s)
    (hB : Below w.heap.size w w1) (hgrow : w1.grownBy w2 (Value.slice va n vc).ownBlock) (hown : w2.ownsRow (b + 1) 9 1 (.slice (some ⟨g, 0, none⟩) (n + 1) cap) (n + 1) (rowsOf strRow ns ++ [.string s]))
    (hat : (Value.slice va n vc).ownBlock = some g ∨ g = w1.heap.size) :
    PS C b (w2.setCell ⟨b, 6, none⟩ (.slice (some ⟨g, 0, none⟩) (n + 1) cap)) i (.slice (some ⟨g, 0, none⟩) (n + 1) cap) (ns ++ [s]) ∧ PF b w (.slice va n vc) (w2.setCell ⟨b, 6, none⟩ (.slice (some ⟨g, 0, none⟩) (n + 1) cap)) (.slice (some ⟨g, 0, none⟩) (n + 1) cap) := by
  subst hn
  have hbl := P.lt
  have hob := own_base P.nam.1
  have K6 := kept_of hgrow hB
  have hne : ¬ some b = (Value.slice va ns.length vc).ownBlock := fun e => by have := (hob b e.symm).1; omega
  have hb6 : Below b w w2 := (below_grown2 (wr := w) (base := b + 1) hgrow hB (Below.refl _ w) (by omega) P.nam.1).mono (by omega)
  have hb7 := hb6.setCell (p := ⟨b, 6, none⟩) (Nat.le_refl _) (.slice (some ⟨g, 0, none⟩) (ns.length + 1) cap)
  have hg := (own_base hown g (by simp [Value.ownBlock])).1
  have hsz := hB.size
  refine ⟨⟨P.ok.to hb7, (P.row.kept K6 hne).putAt (j := 6) (by simp) _, (P.wr.kept K6 hne).set 6 _, ?_, P.ile, by rw [List.length_append]; simpa using hi⟩, ⟨hb7, ?_, fun q hq => ?_⟩⟩
  · refine OwnF.kept (S := (· = b)) ⟨?_, fun y hy => ?_⟩ ((Kept.refl (· = b) w2).set (p := ⟨b, 6, none⟩) rfl _) (fun x hx e => ?_)
    · rw [List.length_append, rowsOf_append, rowsOf_one]
      exact hown
    · rcases List.mem_append.1 hy with h | h
      · exact P.nam.2 y h
      · simp only [List.mem_singleton] at h; rw [h]; exact hs
    · obtain rfl : g = x := by simpa [Value.ownBlock] using hx
      omega
  · have K7 : Kept (fun q => q = b ∨ (Value.slice va ns.length vc).ownBlock = some q) w w2 := fun q h1 h2 => K6 q h1 (fun e => h2 (.inr e.symm))
    exact K7.set (p := ⟨b, 6, none⟩) (.inl rfl) _
  · obtain rfl : g = q := by simpa [Value.ownBlock] using hq
    rcases hat with h | h
    · exact .inl h
    · exact .inr (by omega)

set_option maxRecDepth 100000 in
set_option maxHeartbeats 16000000 in
theorem patAtom_g {C : PC} {b : Nat} {R : PFs} (G : Good C b R) : QC C b 101 (patAtomB C.L C.E R) := by
  intro deep i ns o w nv h P
  generalize hQ : PPost C b w nv o = Q
  have hpost := ppost_out hQ
  clear hQ
  have cT := tok_c P
  have cA := fun W => startsPat_c (tokAt C.L C.E i) W
  have htw := tokAt_wf P.ok i
  unfold patAtomB at h
  have hin := fun h => tokAt_kind (L := C.L) (E := C.E) (i := i) (pat_in h)
  generalize tokAt C.L C.E i = t at *
  have hk06 : startsPatP t = true → t.kind = 3 ∨ t.kind = 1 ∨ t.kind = 4 ∨ t.kind = 6 := fun hs => by
    unfold startsPatP sgn at hs
    by_cases h6 : t.kind = 6
    · omega
    · rw [if_neg h6, show anyS patSigns (bs []) = false from by decide, Bool.or_false] at hs
      have := of_decide_eq_true hs
      omega
  obtain ⟨kd, nn, s0, a⟩ := t
  dsimp only at h hk06
  obtain ⟨hw1, hw2, hw3, hw4⟩ := htw
  dsimp only at hw1 hw2 hw3 hw4
  generalize hsa : startsPatP ⟨kd, nn, s0, a⟩ = sa at *
  cases sa
  · rw [if_pos rfl] at h; cases h
  rw [if_neg (by simp)] at h
  have hi := hin rfl
  have hkd := hk06 rfl
  replace cT : Calls Tryz.prog 51 #[.pointer (some ⟨b, 0, none⟩)] w fun e w' => e = .returned (.agg #[.int .i64 kd, .int .i64 nn, .string s0, .int .i64 a]) ∧ Below w.heap.size w w' := cT
  replace cA : ∀ W, Calls Tryz.prog 100 #[.agg #[.int .i64 kd, .int .i64 nn, .string s0, .int .i64 a]] W fun e w' => e = .returned (.bool true) ∧ Below W.heap.size W w' := cA
  have hlen := P.ok.len
  have hbl := P.lt
  clear hin hk06
  obtain ⟨n, hn⟩ : ∃ n, n = ns.length := ⟨_, rfl⟩
  obtain ⟨va, vc, hv⟩ := P.nam.form
  rw [← hn] at hv
  subst hv
  have hnle := P.nle
  rw [← hn] at hnle
  have cN := fun W (hW : Below w.heap.size w W) => containsS_c ns s0 _ _ _ ((P.nam.below hW).sl flatStr)
  rw [show (ns.any fun y => s0.toList == y.toList) = anyS ns s0 from anyS_list ns s0] at cN
  obtain ⟨an, han⟩ : ∃ q, anyS ns s0 = q := ⟨_, rfl⟩
  rw [han] at h cN
  replace cT := Lib.hid cT; replace cA := Lib.hid cA; replace hpost := Lib.hid hpost; replace hsa := Lib.hid hsa; replace hn := Lib.hid hn; replace han := Lib.hid han
  go_enter Tryz.func101, Tryz.ntmps101
  go_upto_region 2 with (go_at_call 51; (with_reducible refine (cT.out).mono ?_); rintro e w1 ⟨rfl, hb1⟩)
  obtain ⟨w2, hW2⟩ : ∃ W, W = w1.alloc (.cells #[.int .i64 kd, .int .i64 nn, .string s0, .int .i64 a] 75) := ⟨_, rfl⟩
  rw [← hW2]
  have hb2 : Below w1.heap.size w1 w2 := by rw [hW2]; go_grown
  have E2 : RowAt w2 w1.heap.size 0 [.int .i64 kd, .int .i64 nn, .string s0, .int .i64 a] := by rw [hW2]; exact RowAt.box w1 #[_, _, _, _] _
  have hz1 := hb1.size
  have hz2 : w1.heap.size < w2.heap.size := by rw [hW2]; simp
  have hw02 := hb1.trans (hb2.mono hz1)
  have P2 := P.below hw02
  obtain ⟨tb, htb⟩ : ∃ x, x = w1.heap.size := ⟨_, rfl⟩
  rw [← htb] at E2 hz1 hz2 ⊢
  clear hW2 hb2 hb1 htb
  have hnt : (Value.slice va n vc).ownBlock ≠ some tb := P.fresh hz1
  have cN2 := fun W (hW : Below w2.heap.size w2 W) => cN W (hw02.trans (hW.mono hw02.size))
  clear cN
  have cN := Lib.hid cN2
  clear cN2
  obtain ⟨e2_0, e2_1, e2_2, e2_3⟩ := E2.box4; have hsE2 := World.block_lt_of_cell? _ _ e2_0; dsimp only at hsE2
  obtain ⟨p_0, p_1, p_2, p_3, p_4, p_5, p_6⟩ := P2.row.box7p
  have hbl2 := P2.lt
  by_cases k3 : kd = 3
  · subst k3
    rw [if_pos rfl] at h
    cases an
    rotate_left
    · rw [if_pos rfl] at h; cases h
    rw [if_neg (by simp)] at h
    obtain rfl := Option.some.inj h
    (refine wp_region_ext_lit (by kernel_rfl) (by kernel_rfl) ?_; (repeat (any_goals (first | go_big_quiet_step ((first | (go_at_call 100; with_reducible exact Calls.ext (cA.out _)) | (go_at_call 18; with_reducible exact Calls.ext (cN.out _ (Subtype.property _))))) | quiet_step ((first | (go_at_call 100; with_reducible exact Calls.ext (cA.out _)) | (go_at_call 18; with_reducible exact Calls.ext (cN.out _ (Subtype.property _))))) | (refine wpQuiet_step (fun K hK => ?_); go_simp; split <;> (refine hK _ ?_; clear hK K))))); all_goals (refine wpQuiet_nil ?_; rintro wq ⟨⟨_, hbq⟩, rfl⟩))
    have hw0q := hw02.trans (hbq.mono hw02.size)
    have Pq := P2.below hbq
    have Eq := E2.below hbq
    clear e2_0 e2_1 e2_2 e2_3 hsE2 p_0 p_1 p_2 p_3 p_4 p_5 p_6 P2 E2 hw02 hbq cA cN cT h
    obtain ⟨eq_0, eq_1, eq_2, eq_3⟩ := Eq.box4; have hsEq := World.block_lt_of_cell? _ _ eq_0; dsimp only at hsEq
    obtain ⟨p_0, p_1, p_2, p_3, p_4, p_5, p_6⟩ := Pq.row.box7p
    have pf_1 := Pq.wr.frz 1 (by omega)
    have hblq := Pq.lt
    go_upto_region 9 with fail
    obtain ⟨P4, F4⟩ := step_at Pq hi
    have FF4 := (PF.of _ hw0q (Nat.le_of_lt hbl)).trans F4
    have E4 := Eq.pf F4 (by omega) hnt
    clear eq_0 eq_1 eq_2 eq_3 hsEq p_0 p_1 p_2 p_3 p_4 p_5 p_6 pf_1 Pq Eq F4
    generalize wq.setCell ⟨b, 1, none⟩ (.int .i64 ((i : Int) + 1)) = w4 at *
    have hbl4 := P4.lt
    obtain ⟨e4_0, e4_1, e4_2, e4_3⟩ := E4.box4; have hsE4 := World.block_lt_of_cell? _ _ e4_0; dsimp only at hsE4
    have hsz4 := FF4.size
    obtain ⟨p_0, p_1, p_2, p_3, p_4, p_5, p_6⟩ := P4.row.box7p
    have pf_6 := P4.wr.frz 6 (by omega)
    obtain ⟨iD, hi0, hz0, hz1, hz2⟩ := info_parts info_strP; have ID := Lib.hid hi0; have ID0 := Lib.hid hz0; have ID1 := Lib.hid hz1; have ID2 := Lib.hid hz2; clear hi0 hz0 hz1 hz2
    have hown0 : w4.ownsRow (b + 1) 9 1 (.slice va n vc) n (rowsOf strRow ns) := by have h := P4.nam.1; rw [← hn.out] at h; exact h
    have hne2 : ∀ q, (Value.slice va n vc).ownBlock = some q → b + 1 ≤ q := fun q hq => (own_base hown0 q hq).1
    have hex : ∀ (w1 w2 : World) g cap, Below w4.heap.size w4 w1 → w1.grownBy w2 (Value.slice va n vc).ownBlock → w2.ownsRow (b + 1) 9 1 (.slice (some ⟨g, 0, none⟩) (n + 1) cap) (n + 1) (rowsOf strRow ns ++ [.string s0]) → ((Value.slice va n vc).ownBlock = some g ∨ g = w1.heap.size) →
        PS C b (w2.setCell ⟨b, 6, none⟩ (.slice (some ⟨g, 0, none⟩) (n + 1) cap)) (i + 1) (.slice (some ⟨g, 0, none⟩) (n + 1) cap) (ns ++ [s0]) ∧ PF b w4 (.slice va n vc) (w2.setCell ⟨b, 6, none⟩ (.slice (some ⟨g, 0, none⟩) (n + 1) cap)) (.slice (some ⟨g, 0, none⟩) (n + 1) cap) := fun w1 w2 g cap hB h1 h2 h3 => names_grow P4 hn.out (by omega) hw3 hB h1 h2 h3
    replace hown0 := Lib.hid hown0; replace hne2 := Lib.hid hne2; replace hex := Lib.hid hex
    go_upto_region 11 with fail
    go_region_law ((refine step_append_lies _ (by rfl) _ _ _ (by rfl) (b + 1) 9 iD _ 1 16 Tryz.underlying22 ID.out ID0.out ID1.out ID2.out rfl (by omega) _ (n) (rowsOf strRow ns) (by rfl) (own_below hown0.out (by go_grown)) ⟨w4.heap.size, 0, none⟩ 1 1 [.string s0] (by rfl) (by rfl) (World.news_of_block (cs := #[.string s0]) (t := 9) (fr := (0, 0)) (heap_alloc_new' _ _ _ (by simp))) (by intro u hu; simp at hu; (first | (subst hu; rfl) | (rcases hu with rfl | rfl | rfl | rfl <;> rfl) | (rcases hu with rfl | rfl | rfl | rfl | rfl | rfl <;> rfl) | (rcases hu with rfl | rfl | rfl | rfl | rfl | rfl | rfl <;> rfl))) (by omega) (by unfold maxLen; omega) (by omega) (by simp; omega) _ rfl ?_; intro g2 cap2 w6 hown hgrow hat hlt2); have hx := hex.out _ _ _ _ (by go_grown) hgrow hown hat; have k6 := kept_of hgrow (w := w4) (by go_grown); obtain ⟨m_0, m_1, m_2, m_3, m_4, m_5, m_6⟩ := (P4.row.kept k6 (fun e => by have := hne2.out _ e.symm; omega)).box7p; have mf_6 := (P4.wr.kept k6 (fun e => by have := hne2.out _ e.symm; omega)).frz 6 (by omega); have mbl := World.block_lt_of_cell? _ _ m_0; dsimp only at mbl)
    all_goals
      obtain ⟨P7, F7⟩ := hx
      have E7 := E4.pf F7 (by omega) hnt
      have FF7 := FF4.trans F7
      clear hown hgrow hat hlt2 k6 m_0 m_1 m_2 m_3 m_4 m_5 m_6 mf_6 mbl e4_0 e4_1 e4_2 e4_3 hsE4 p_0 p_1 p_2 p_3 p_4 p_5 p_6 pf_6 P4 E4 hex hown0 hne2
      generalize w6.setCell ⟨b, 6, none⟩ (.slice (some ⟨g2, 0, none⟩) (n + 1) cap2) = w7 at *
      obtain ⟨e7_0, e7_1, e7_2, e7_3⟩ := E7.box4; have hsE7 := World.block_lt_of_cell? _ _ e7_0; dsimp only at hsE7
      have hf := fin_leafP P7 FF7 (kd := 2) (pxw (by omega) z64 hw3) rfl
      replace hf := Lib.hid hf
      clear P7 F7 E7
      go_wp2_with fail
      exact hpost.out _ _ _ hf.out
  have d3 : (kd == 3) = false := beq_eq_false_iff_ne.2 k3
  rw [if_neg k3] at h
  (refine wp_region_ext_lit (by kernel_rfl) (by kernel_rfl) ?_; (repeat (any_goals (first | go_big_quiet_step ((first | (go_at_call 100; with_reducible exact Calls.ext (cA.out _)) | (go_at_call 18; with_reducible exact Calls.ext (cN.out _ (Subtype.property _))))) | quiet_step ((first | (go_at_call 100; with_reducible exact Calls.ext (cA.out _)) | (go_at_call 18; with_reducible exact Calls.ext (cN.out _ (Subtype.property _))))) | (refine wpQuiet_step (fun K hK => ?_); go_simp; split <;> (refine hK _ ?_; clear hK K))))); all_goals (refine wpQuiet_nil ?_; rintro wq ⟨⟨_, hbq⟩, rfl⟩))
  have hw0q := hw02.trans (hbq.mono hw02.size)
  have Pq := P2.below hbq
  have Eq := E2.below hbq
  clear e2_0 e2_1 e2_2 e2_3 hsE2 p_0 p_1 p_2 p_3 p_4 p_5 p_6 P2 E2 hw02 hbq cA cN cT
  obtain ⟨eq_0, eq_1, eq_2, eq_3⟩ := Eq.box4; have hsEq := World.block_lt_of_cell? _ _ eq_0; dsimp only at hsEq
  obtain ⟨p_0, p_1, p_2, p_3, p_4, p_5, p_6⟩ := Pq.row.box7p
  have pf_1 := Pq.wr.frz 1 (by omega)
  have hblq := Pq.lt
  go_upto_region 9 with fail
  obtain ⟨P4, F4⟩ := step_at Pq hi
  have FF4 := (PF.of _ hw0q (Nat.le_of_lt hbl)).trans F4
  have E4 := Eq.pf F4 (by omega) hnt
  clear eq_0 eq_1 eq_2 eq_3 hsEq p_0 p_1 p_2 p_3 p_4 p_5 p_6 pf_1 Pq Eq F4
  generalize wq.setCell ⟨b, 1, none⟩ (.int .i64 ((i : Int) + 1)) = w4 at *
  have hbl4 := P4.lt
  obtain ⟨e4_0, e4_1, e4_2, e4_3⟩ := E4.box4; have hsE4 := World.block_lt_of_cell? _ _ e4_0; dsimp only at hsE4
  by_cases k1 : kd = 1
  · subst k1
    rw [if_pos rfl] at h
    obtain rfl := Option.some.inj h
    have hf := fin_leafP P4 FF4 (kd := 3) (pxw (by omega) hw2 bs_ok) rfl
    replace hf := Lib.hid hf
    go_wp2_with fail
    exact hpost.out _ _ _ hf.out
  rw [if_neg k1] at h
  have d1 : (kd == 1) = false := beq_eq_false_iff_ne.2 k1
  by_cases k4 : kd = 4
  · rw [if_pos k4] at h; cases h
  rw [if_neg k4] at h
  have d4 : (kd == 4) = false := beq_eq_false_iff_ne.2 k4
  obtain rfl : kd = 6 := by omega
  obtain ⟨a1, ha1⟩ : ∃ q, eqS s0 qUnder = q := ⟨_, rfl⟩
  have c1 : (s0.toList == [95]) = a1 := (eqS_lit qUnder rfl).trans ha1
  obtain ⟨a2, ha2⟩ : ∃ q, eqS s0 qMinus = q := ⟨_, rfl⟩
  have c2 : (s0.toList == [45]) = a2 := (eqS_lit qMinus rfl).trans ha2
  obtain ⟨a3, ha3⟩ : ∃ q, eqS s0 qOpenB = q := ⟨_, rfl⟩
  have c3 : (s0.toList == [91]) = a3 := (eqS_lit qOpenB rfl).trans ha3
  obtain ⟨a4, ha4⟩ : ∃ q, eqS s0 qOpen = q := ⟨_, rfl⟩
  have c4 : (s0.toList == [40]) = a4 := (eqS_lit qOpen rfl).trans ha4
  rw [ha1, ha2, ha3, ha4] at h
  replace ha1 := Lib.hid ha1; replace ha2 := Lib.hid ha2; replace ha3 := Lib.hid ha3; replace ha4 := Lib.hid ha4
  cases a1
  rotate_left
  · rw [if_pos rfl] at h
    obtain rfl := Option.some.inj h
    have hf := fin_leafP P4 FF4 (kd := 1) (pxw (by omega) z64 bs_ok) rfl
    replace hf := Lib.hid hf
    go_wp2_with fail
    exact hpost.out _ _ _ hf.out
  rw [if_neg (by simp)] at h
  cases a2
  rotate_left
  · rw [if_pos rfl] at h; cases h
  rw [if_neg (by simp)] at h
  cases a3
  rotate_left
  · rw [if_pos rfl] at h
    obtain ⟨j, hj, ho⟩ := Option.map_eq_some_iff.1 h
    subst ho
    have cE := eat_c P4 ⟨#[93]⟩ (by decide) hj
    replace cE := Lib.hid cE; replace hj := Lib.hid hj
    clear h
    go_upto_region 29 with (go_at_call 48; (with_reducible refine (cE.out).mono ?_); rintro e w5 ⟨rfl, P5, F5⟩)
    have hf := fin_leafP P5 (FF4.trans F5) (kd := 4) (pxw (by omega) z64 (show StrOk qNil by unfold StrOk; decide)) rfl
    replace hf := Lib.hid hf
    clear P5 F5 cE
    go_wp2_with fail
    exact hpost.out _ _ _ hf.out
  rw [if_neg (by simp)] at h
  cases a4
  rotate_left
  · rw [if_pos rfl] at h
    have cX := patParens_g G deep (i + 1) ns o w4 _ h P4
    replace cX := Lib.hid cX
    go_wp2_with (go_at_call 118; (with_reducible refine (cX.out).mono ?_); rintro e w5 ⟨q5, nv5, rfl, P5, F5, T5⟩)
    exact hpost.out q5 nv5 _ ⟨P5, FF4.trans F5, T5.lower FF4.size⟩
  rw [if_neg (by simp)] at h
  obtain rfl := Option.some.inj h
  have hf := fin_leafP P4 FF4 (kd := 4) (pxw (by omega) z64 hw3) rfl
  replace hf := Lib.hid hf
  go_wp2_with fail
  exact hpost.out _ _ _ hf.out
end Go.Proofs.YtcjoheplilaccaaGreat

/- Trees by value, and lists of nodes that the call owns: how they read. No program is walked here. -/
namespace Go.Proofs.YtcjoheplilaccaaGreat
open Go.RowKit
set_option linter.unusedVariables false
set_option linter.unusedSimpArgs false

/-- The cells r are a tree of at most f levels; each block that they lead to is in S. -/
def PV : Nat → (Nat → Prop) → World → List Value → PxT → Prop
  | 0, _, _, _, _ => False
  | f + 1, S, w, r, t => ∃ a cap, r = [.int .i64 t.kind, .int .i64 t.n, .string t.s, .slice a t.kids.length cap] ∧ t.wf ∧ t.kids.length ≤ cap ∧ cap ≤ 9223372036854775807 ∧
      (0 < t.kids.length → ∃ g off, a = some ⟨g, off, none⟩ ∧ S g ∧ ∀ i k, t.kids[i]? = some k → ∃ q, RowAt w g (off + i * 4) q ∧ PV f S w q k)
theorem PV.len : ∀ {f : Nat} {S : Nat → Prop} {w : World} {r : List Value} {t : PxT}, PV f S w r t → r.length = 4
  | 0, _, _, _, _, h => absurd h (by simp [PV])
  | f + 1, _, _, _, _, ⟨_, _, h, _⟩ => by rw [h]; rfl
theorem PV.to : ∀ {f : Nat} {S S' : Nat → Prop} {w w' : World} {r : List Value} {t : PxT}, PV f S w r t → Same S w w' → (∀ b, S b → b < w.heap.size → S' b) → PV f S' w' r t
  | 0, _, _, _, _, _, _, h, _, _ => h
  | f + 1, S, S', w, w', r, t, ⟨a, cap, hv, hwf, h1, h2, h3⟩, hs, hi =>
    ⟨a, cap, hv, hwf, h1, h2, fun h0 =>
      let ⟨g, off, ha, hg, hk⟩ := h3 h0
      ⟨g, off, ha, by
        obtain ⟨k, hk0⟩ : ∃ k, t.kids[0]? = some k := ⟨_, List.getElem?_eq_getElem h0⟩
        obtain ⟨q, hq, hP⟩ := hk 0 k hk0
        have hl := hP.len
        exact hi g hg (World.block_lt_of_cell? w _ (hq 0 _ (List.getElem?_eq_getElem (by omega)))), fun i k hik =>
          let ⟨q, hq, hR⟩ := hk i k hik
          ⟨q, fun j c hc => hs.cell hg (hq j c hc), hR.to hs hi⟩⟩⟩
theorem PV.below {f : Nat} {S : Nat → Prop} {w w' : World} {r : List Value} {t : PxT} (h : PV f S w r t) (hb : Below w.heap.size w w') : PV f S w' r t := h.to (Same.below hb) fun _ h _ => h
theorem PV.kept {f : Nat} {S K : Nat → Prop} {w w' : World} {r : List Value} {t : PxT} (h : PV f S w r t) (hk : Kept K w w') (hS : ∀ b, S b → ¬ K b) : PV f S w' r t :=
  h.to (fun b h1 h2 => hk b h2 (hS b h1)) fun _ h _ => h
theorem PV.succ : ∀ {f : Nat} {S : Nat → Prop} {w : World} {r : List Value} {t : PxT}, PV f S w r t → PV (f + 1) S w r t
  | 0, _, _, _, _, h => absurd h (by simp [PV])
  | f + 1, S, w, r, t, ⟨a, cap, hv, hwf, h1, h2, h3⟩ => ⟨a, cap, hv, hwf, h1, h2, fun h0 =>
      let ⟨g, off, ha, hg, hk⟩ := h3 h0
      ⟨g, off, ha, hg, fun i k hik => let ⟨q, hq, hR⟩ := hk i k hik; ⟨q, hq, hR.succ⟩⟩⟩
theorem PV.mono {f g : Nat} {S : Nat → Prop} {w : World} {r : List Value} {t : PxT} (h : PV f S w r t) (hfg : f ≤ g) : PV g S w r t := by
  induction g with
  | zero => obtain rfl : f = 0 := by omega
            exact h
  | succ g ih =>
    by_cases e : f = g + 1
    · exact e ▸ h
    · exact (ih (by omega)).succ

/-! ### A list of nodes that the call owns -/
/-- A node, and where its children's list lies. -/
abbrev DRow := GDNode × Option Addr × Nat
def kidsV (p : DRow) : Value := .slice p.2.1 p.1.kids.length p.2.2
def drow (p : DRow) : List Value := [.int .i64 p.1.kind, .int .i64 p.1.n, .string p.1.s, kidsV p]
def dwf (p : DRow) : Prop := p.1.wf
def DRowR : Reading DRow := fun _ _ r p => r = drow p ∧ dwf p
theorem flatD : Flat DRowR 4 drow dwf := ⟨fun h => h, fun h _ _ => ⟨rfl, h⟩, fun _ => rfl, fun p u hu => by simp [drow] at hu; rcases hu with rfl | rfl | rfl | rfl <;> rfl, by decide⟩
/-- The children's lists of the nodes lie in blocks of which C holds. -/
def KidsIn (C : Nat → Prop) (lo : Nat) (w : World) (ps : List DRow) : Prop := ∀ p ∈ ps, Sl IntR 1 lo w (kidsV p) p.1.kids ∧ ∀ g, (kidsV p).ownBlock = some g → C g ∧ g < w.heap.size
theorem sl_kept {α : Type} {R : Reading α} {sz lo : Nat} {f : α → List Value} {wf : α → Prop} (F : Flat R sz f wf) {S : Nat → Prop} {w w' : World} {u : Value} {xs : List α} (h : Sl R sz lo w u xs) (hk : Kept S w w') (hS : ∀ g, u.ownBlock = some g → ¬ S g) : Sl R sz lo w' u xs := by
  have hwf := F.wfs h
  obtain ⟨a, c, rfl, h1, h2, h3⟩ := h
  refine ⟨a, c, rfl, h1, h2, fun h0 => ?_⟩
  obtain ⟨b, off, hl, hb, rfl, hr⟩ := F.cells h3 h0
  have hr' := hr.kept hk (hS b rfl)
  exact ⟨b, off, hl, rfl, fun i x hx => ⟨f x, F.back (hwf x (List.mem_of_getElem? hx)) _ _, fun j c hc => by rw [Nat.add_assoc]; exact hr' _ c (F.get hx hc)⟩⟩
theorem KidsIn.kept {C S : Nat → Prop} {lo : Nat} {w w' : World} {ps : List DRow} (h : KidsIn C lo w ps) (hk : Kept S w w') (hS : ∀ g, C g → ¬ S g) (hz : w.heap.size ≤ w'.heap.size) : KidsIn C lo w' ps := fun p hp =>
  let ⟨h1, h2⟩ := h p hp
  ⟨sl_kept flatInt h1 hk fun g hg => hS g (h2 g hg).1, fun g hg => ⟨(h2 g hg).1, Nat.lt_of_lt_of_le (h2 g hg).2 hz⟩⟩
theorem KidsIn.below {C : Nat → Prop} {lo : Nat} {w w' : World} {ps : List DRow} (h : KidsIn C lo w ps) (hb : Below w.heap.size w w') : KidsIn C lo w' ps := h.kept (S := fun _ => False) (Kept.below hb) (fun _ _ h => h) hb.size
theorem KidsIn.to {C C' : Nat → Prop} {lo : Nat} {w : World} {ps : List DRow} (h : KidsIn C lo w ps) (hC : ∀ g, g < w.heap.size → C g → C' g) : KidsIn C' lo w ps := fun p hp =>
  let ⟨h1, h2⟩ := h p hp
  ⟨h1, fun g hg => ⟨hC g (h2 g hg).2 (h2 g hg).1, (h2 g hg).2⟩⟩
theorem KidsIn.append {C : Nat → Prop} {lo : Nat} {w : World} {ps qs : List DRow} (h : KidsIn C lo w ps) (h' : KidsIn C lo w qs) : KidsIn C lo w (ps ++ qs) := fun p hp => by
  rcases List.mem_append.1 hp with h1 | h1
  · exact h p h1
  · exact h' p h1
theorem KidsIn.set {C : Nat → Prop} {lo : Nat} {w : World} {ps : List DRow} (h : KidsIn C lo w ps) {i : Nat} {q : DRow} (hq : Sl IntR 1 lo w (kidsV q) q.1.kids ∧ ∀ g, (kidsV q).ownBlock = some g → C g ∧ g < w.heap.size) : KidsIn C lo w (ps.set i q) := fun p hp => by
  rcases List.mem_or_eq_of_mem_set hp with h1 | rfl
  · exact h p h1
  · exact hq
/-- v holds these nodes; the call owns v's block, and the nodes' children lie in other blocks, outside A. -/
structure OwnD (A : Nat → Prop) (T : TypeId) (lo : Nat) (w : World) (v : Value) (ps : List DRow) : Prop where
  own : OwnF T 4 drow dwf lo w v ps
  kids : KidsIn (fun g => v.ownBlock ≠ some g ∧ ¬ A g) lo w ps
  out : ∀ g, v.ownBlock = some g → ¬ A g
theorem OwnD.nil (A : Nat → Prop) (T : TypeId) (lo : Nat) (w : World) : OwnD A T lo w (.slice none 0 0) [] := ⟨OwnF.empty, fun p hp => (by cases hp), fun g hg => (by cases hg)⟩
theorem OwnD.kept {A S : Nat → Prop} {T : TypeId} {lo : Nat} {w w' : World} {v : Value} {ps : List DRow} (h : OwnD A T lo w v ps) (hk : Kept S w w') (hS : ∀ g, g < w.heap.size → ¬ A g → ¬ S g) (hz : w.heap.size ≤ w'.heap.size) : OwnD A T lo w' v ps :=
  ⟨h.own.kept hk fun g hg => hS g (h.own.base g hg).2 (h.out g hg), fun p hp =>
    let ⟨h1, h2⟩ := h.kids p hp
    ⟨sl_kept flatInt h1 hk fun g hg => hS g (h2 g hg).2 (h2 g hg).1.2, fun g hg => ⟨(h2 g hg).1, Nat.lt_of_lt_of_le (h2 g hg).2 hz⟩⟩, h.out⟩
theorem OwnD.below {A : Nat → Prop} {T : TypeId} {lo : Nat} {w w' : World} {v : Value} {ps : List DRow} (h : OwnD A T lo w v ps) (hb : Below w.heap.size w w') : OwnD A T lo w' v ps :=
  h.kept (S := fun _ => False) (Kept.below hb) (fun _ _ _ h => h) hb.size
theorem OwnD.toA {A A' : Nat → Prop} {T : TypeId} {lo : Nat} {w : World} {v : Value} {ps : List DRow} (h : OwnD A T lo w v ps) (hA : ∀ g, g < w.heap.size → A' g → A g) : OwnD A' T lo w v ps :=
  ⟨h.own, h.kids.to fun g hg hc => ⟨hc.1, fun ha => hc.2 (hA g hg ha)⟩, fun g hg ha => h.out g hg (hA g (h.own.base g hg).2 ha)⟩
theorem OwnD.form {A : Nat → Prop} {T : TypeId} {lo : Nat} {w : World} {v : Value} {ps : List DRow} (h : OwnD A T lo w v ps) : ∃ a c, v = .slice a ps.length c := h.own.form
/-- As a value's nodes. -/
theorem OwnD.sl {A : Nat → Prop} {T : TypeId} {lo : Nat} {w : World} {v : Value} {ps : List DRow} (h : OwnD A T lo w v ps) : Sl GDNode.R 4 lo w v (ps.map (·.1)) := by
  obtain ⟨a, c, rfl, h1, h2, h3⟩ := h.own.sl flatD
  refine ⟨a, c, by rw [List.length_map], by rw [List.length_map]; exact h1, h2, fun h0 => ?_⟩
  rw [List.length_map] at h0
  obtain ⟨b, off, hl, ha, h4⟩ := h3 h0
  refine ⟨b, off, hl, ha, fun i x hx => ?_⟩
  rw [List.getElem?_map] at hx
  cases hp : ps[i]? with
  | none => rw [hp] at hx; cases hx
  | some p =>
    rw [hp] at hx
    obtain rfl : p.1 = x := Option.some.inj hx
    obtain ⟨r, ⟨hr1, hr2⟩, hr3⟩ := h4 i p hp
    exact ⟨r, ⟨kidsV p, hr1, hr2, (h.kids p (List.mem_of_getElem? hp)).1⟩, hr3⟩
end Go.Proofs.YtcjoheplilaccaaGreat

/- The reference's l07Lay: a tree laid into a list of nodes. -/
namespace Go.Proofs.YtcjoheplilaccaaGreat
open Go.RowKit
set_option linter.unusedVariables false
set_option linter.unusedSimpArgs false
attribute [local go_sem] Ext.cell

/-- The children's places, and the nodes behind. -/
def layK (L : Nat → PxT → List GDNode) : Nat → List PxT → List Int × List GDNode
  | _, [] => ([], [])
  | nx, k :: ks => ((nx : Int) :: (layK L (nx + (L nx k).length) ks).1, L nx k ++ (layK L (nx + (L nx k).length) ks).2)
def layT : Nat → Nat → PxT → List GDNode
  | 0, _, _ => []
  | f + 1, at_, t => ⟨t.kind, t.n, t.s, (layK (layT f) (at_ + 1) t.kids).1⟩ :: (layK (layT f) (at_ + 1) t.kids).2
theorem layK_snoc (L : Nat → PxT → List GDNode) : ∀ (ks : List PxT) (nx : Nat) (k : PxT), layK L nx (ks ++ [k]) =
    ((layK L nx ks).1 ++ [((nx + (layK L nx ks).2.length : Nat) : Int)], (layK L nx ks).2 ++ L (nx + (layK L nx ks).2.length) k)
  | [], nx, k => by simp [layK]
  | c :: ks, nx, k => by
    have ih := layK_snoc L ks (nx + (L nx c).length) k
    simp only [List.cons_append, layK, ih, List.length_append, Nat.add_assoc, List.append_assoc]
theorem layK_len (L : Nat → PxT → List GDNode) : ∀ (ks : List PxT) (nx : Nat), (layK L nx ks).1.length = ks.length
  | [], nx => rfl
  | c :: ks, nx => by simp [layK, layK_len L ks]
/-- How much a tree lays. -/
def szT : Nat → PxT → Nat
  | 0, _ => 0
  | f + 1, t => 1 + t.kids.length + (t.kids.map (szT f)).sum
theorem sum_take_nat {α : Type} (f : α → Nat) (l : List α) (k : Nat) : ((l.take k).map f).sum ≤ (l.map f).sum := by
  conv => rhs; rw [← List.take_append_drop k l]
  rw [List.map_append, List.sum_append]
  omega
theorem layK_le {L : Nat → PxT → List GDNode} {z : PxT → Nat} (h : ∀ nx k, (L nx k).length ≤ z k) : ∀ (ks : List PxT) (nx : Nat), (layK L nx ks).2.length ≤ (ks.map z).sum
  | [], nx => by simp [layK]
  | c :: ks, nx => by
    have h1 := layK_le h ks (nx + (L nx c).length)
    have h2 := h nx c
    simp [layK]
    omega
theorem layT_le : ∀ (f at_ : Nat) (t : PxT), (layT f at_ t).length ≤ szT f t
  | 0, at_, t => by simp [layT]
  | f + 1, at_, t => by
    have := layK_le (L := layT f) (z := szT f) (fun nx k => layT_le f nx k) t.kids (at_ + 1)
    simp only [layT, szT, List.length_cons]
    omega

/-- A node more, in place or in a new block. -/
theorem OwnD.push {A : Nat → Prop} {T : TypeId} {lo : Nat} {w w1 w2 : World} {v : Value} {ps : List DRow} {p : DRow} {g n cap : Nat} (h : OwnD A T lo w v ps) (hb : Below w.heap.size w w1) (hg : w1.grownBy w2 v.ownBlock)
    (hown : w2.ownsRow lo T 4 (.slice (some ⟨g, 0, none⟩) n cap) n (rowsOf drow ps ++ drow p)) (hn : n = ps.length + 1) (hat : v.ownBlock = some g ∨ g = w1.heap.size) (hp : dwf p) (hk : p.1.kids = []) (hk2 : p.2.1 = none) (hk3 : p.2.2 = 0) (hA : ∀ q, A q → q < w1.heap.size) :
    OwnD A T lo w2 (.slice (some ⟨g, 0, none⟩) n cap) (ps ++ [p]) := by
  have hs := hb.size
  have hK : Kept (fun k => some k = v.ownBlock) w w2 := kept_of hg hb
  refine ⟨⟨?_, fun x hx => ?_⟩, fun q hq => ?_, fun q hq ha => ?_⟩
  · rw [List.length_append, rowsOf_append, rowsOf_one]
    subst hn
    exact hown
  · rcases List.mem_append.1 hx with h1 | h1
    · exact h.own.2 x h1
    · simp at h1; subst h1; exact hp
  · rcases List.mem_append.1 hq with h1 | h1
    · obtain ⟨h2, h3⟩ := h.kids q h1
      refine ⟨sl_kept flatInt h2 hK fun b hb' e => (h3 b hb').1.1 e.symm, fun b hb' => ⟨⟨fun e => ?_, (h3 b hb').1.2⟩, Nat.lt_of_lt_of_le (h3 b hb').2 (Nat.le_trans hs hg.size)⟩⟩
      obtain rfl : g = b := by simpa [Value.ownBlock] using e
      rcases hat with h4 | h4
      · exact (h3 g hb').1.1 h4
      · have := (h3 g hb').2; omega
    · simp at h1
      subst h1
      have e : kidsV q = .slice none 0 0 := by unfold kidsV; rw [hk, hk2, hk3]; rfl
      rw [e, hk]
      exact ⟨Sl.nil, fun b hb' => by cases hb'⟩
  · obtain rfl : g = q := by simpa [Value.ownBlock] using hq
    rcases hat with h4 | h4
    · exact h.out g h4 ha
    · have := hA g ha; omega

theorem PV.form {f : Nat} {S : Nat → Prop} {w : World} {r : List Value} {t : PxT} (h : PV f S w r t) : ∃ a cap, r = [.int .i64 t.kind, .int .i64 t.n, .string t.s, .slice a t.kids.length cap] := by
  cases f with
  | zero => exact absurd h (by simp [PV])
  | succ f => obtain ⟨a, c, h, _⟩ := h; exact ⟨a, c, h⟩
theorem info_intL : (Tryz.prog.info? 3).map (fun i => (i.zero, i.size, i.bytes)) = some (some (.int .i64 0), 1, 8) := by kernel_rfl

end Go.Proofs.YtcjoheplilaccaaGreat
