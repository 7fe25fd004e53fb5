/- Parts of the proof, merged: LyN2. -/
import Derived.Deep.RegionHeld3
import Derived.Deep.RegionLaw
import Derived.Test.YtnmmfcnkpcigoaaGreatDe40
/- The reference's l03Lay: its walk. -/
namespace Go.Proofs.YtnmmfcnkpcigoaaGreat
open Go.RowKit
set_option linter.unusedVariables false
set_option linter.unusedSimpArgs false
attribute [local go_sem] Ext.cell

def LyPost (A : Nat → Prop) (lo : Nat) (w : World) (v : Value) (pss : List (List Nat)) (l : List GNode) (e : Ending) (w' : World) : Prop :=
  ∃ v' pss', e = .returned v' ∧ LStep A lo w v pss w' v' pss' l
theorem ys_split {xs : List GNode} {x y : GNode} {l : List GNode} : (xs ++ x :: l).set xs.length y = xs ++ y :: l := by
  rw [List.set_append_right _ _ (Nat.le_refl _), Nat.sub_self]; rfl

set_option maxRecDepth 100000 in
set_option maxHeartbeats 16000000 in
theorem l03Lay_c : ∀ (f : Nat) (t : ExT) (A : Nat → Prop) (v : Value) (r : List Value) (pss : List (List Nat)) (xs : List GNode) (lo : Nat) (w : World), EV f A w r t → GrowO 47 6 GNode.O lo w v pss xs → (∀ b ∈ pss.flatten, v.ownBlock ≠ some b) → lo ≤ w.heap.size → (∀ q, A q → q < w.heap.size) → (∀ q, A q → v.ownBlock ≠ some q) → xs.length + szE t ≤ 16777216 →
    Calls Tryz.prog 15 #[v, .agg r.toArray] w (LyPost A lo w v pss (xs ++ layE xs.length t))
  | 0, t, A, v, r, pss, xs, lo, w, h, _, _, _, _, _, _ => absurd h (by simp [EV])
  | f + 1, t, A, v, r, pss, xs, lo, w, h, hO, hsep, hlo, hA, hAv, hsz => by
    have ih := l03Lay_c f
    obtain ⟨na, nb, nc, pv, bs, ka, kc, rfl, hwf, hps, hqb, kl, km, hk⟩ := h
    obtain ⟨kd, at_, nn, s, ks, ps⟩ := t
    simp only [ExT.kind, ExT.at_, ExT.n, ExT.s, ExT.kids, ExT.pats] at *
    obtain ⟨qa, qc, rfl⟩ := hps.form
    have hlay := layE_mk xs.length kd at_ nn s ks ps
    have hszE := szE_mk kd at_ nn s ks ps
    rw [hszE] at hsz
    obtain ⟨m, hm⟩ : ∃ m, m = ks.length := ⟨_, rfl⟩
    obtain ⟨qm, hqm⟩ : ∃ m, m = ps.length := ⟨_, rfl⟩
    rw [← hm] at kl hk ⊢
    rw [← hqm] at hps ⊢
    obtain ⟨va, vc, rfl⟩ := hO.form
    obtain ⟨rows, hown0, hrows⟩ := hO
    have hO : GrowO 47 6 GNode.O lo w (.slice va xs.length vc) pss xs := ⟨rows, hown0, hrows⟩
    have hml : m ≤ szEs ks := by rw [hm]; exact len_szEs ks
    have hlt : ∀ b ∈ pss.flatten, b < w.heap.size := fun b hb => hO.lt GNode.ok b (mem_fpO.2 (.inr hb))
    have hpost : ∀ n, n = xs.length → ∀ v' pss' W, LStep A lo w (.slice va n vc) pss W v' pss' (xs ++ (⟨kd, at_, nn, s, plE (n + 1) ks, ps⟩ :: layEs (n + 1) ks)) →
        LyPost A lo w (.slice va n vc) pss (xs ++ layE n (.mk kd at_ nn s ks ps)) (.returned v') W := fun n hn v' pss' W h => by subst hn; rw [hlay]; exact ⟨v', pss', rfl, h⟩
    have hwfI : I64 kd ∧ I64 at_ ∧ I64 nn ∧ StrOk s := hwf
    obtain ⟨n, hn⟩ : ∃ n, n = xs.length := ⟨_, rfl⟩
    rw [← hn] at hown0 hO hsep hsz hAv ⊢
    replace hpost := hpost n hn
    generalize LyPost A lo w (.slice va n vc) pss (xs ++ layE n (.mk kd at_ nn s ks ps)) = P at *
    have hpu := fun w1 w2 (cap g : Nat) => LStep.push (A := A) (w1 := w1) (w2 := w2) (cap := cap) (g := g) hsep hlt hlo hown0 hrows hn
    have hob := own_base hown0
    replace hm := Lib.hid hm; replace hn := Lib.hid hn; replace hlay := Lib.hid hlay; replace hszE := Lib.hid hszE; replace ih := Lib.hid ih; replace hk := Lib.hid hk; replace hqm := Lib.hid hqm
    replace hown0 := Lib.hid hown0; replace hO := Lib.hid hO; replace hA := Lib.hid hA; replace hAv := Lib.hid hAv; replace hpost := Lib.hid hpost; replace hpu := Lib.hid hpu; replace hps := Lib.hid hps; replace hqb := Lib.hid hqb; replace hob := Lib.hid hob
    clear hrows hsep hlt
    obtain ⟨iD, hi0, hz0, hz1, hz2⟩ := info_parts info_Node; have ID := Lib.hid hi0; have ID0 := Lib.hid hz0; have ID1 := Lib.hid hz1; have ID2 := Lib.hid hz2; clear hi0 hz0 hz1 hz2
    obtain ⟨iJ, hi0, hz0, hz1, hz2⟩ := info_parts info_intE; have IJ := Lib.hid hi0; have IJ0 := Lib.hid hz0; have IJ1 := Lib.hid hz1; have IJ2 := Lib.hid hz2; clear hi0 hz0 hz1 hz2
    go_enter Tryz.func15, Tryz.ntmps15
    go_upto_region 3 with (at_builtin; refine wpList_append_lies _ rfl _ _ _ rfl (lo) 47 iD _ 6 88 Tryz.underlying27 ID.out ID0.out ID1.out ID2.out rfl (by omega) (.slice va n vc) (n) (rows.flatten) rfl (own_below hown0.out (by go_grown)) ⟨w.heap.size + 1, 0, none⟩ 1 1 [.int .i64 0, .int .i64 0, .int .i64 0, .string ⟨#[]⟩, .slice none 0 0, .slice none 0 0] rfl rfl (World.news_of_block (cs := #[.int .i64 0, .int .i64 0, .int .i64 0, .string ⟨#[]⟩, .slice none 0 0, .slice none 0 0]) (t := 47) (fr := (0, 0)) (heap_alloc_new' _ _ _ (by simp))) (by intro u hu; simp at hu; (first | (subst hu; rfl) | (rcases hu with rfl | rfl | rfl | rfl <;> rfl) | (rcases hu with rfl | rfl | rfl | rfl | rfl | rfl <;> rfl) | (rcases hu with rfl | rfl | rfl | rfl | rfl | rfl | rfl <;> rfl) | (rcases hu with rfl | rfl | rfl | rfl | rfl | rfl | rfl | rfl | rfl <;> rfl))) (by omega) (by unfold maxLen; omega) (by omega) (by simp; omega) _ rfl ?_; intro g cap w2 hown hgrow hat hlt2)
    have LS2 := hpu.out ((w.alloc (.cells #[.int .i64 kd, .int .i64 at_, .int .i64 nn, .string s, .slice na nb nc, .slice qa qm qc, .slice ka m kc] 50)).alloc (.cells #[.int .i64 0, .int .i64 0, .int .i64 0, .string ⟨#[]⟩, .slice none 0 0, .slice none 0 0] 47)) w2 cap g (by go_grown) hgrow hown (by simpa using hat)
    have hz2 : w.heap.size + 2 ≤ w2.heap.size := by have := hgrow.size; simpa using this
    have S2 : RowAt w2 w.heap.size 0 [.int .i64 kd, .int .i64 at_, .int .i64 nn, .string s, .slice na nb nc, .slice qa qm qc, .slice ka m kc] := ((RowAt.box w #[.int .i64 kd, .int .i64 at_, .int .i64 nn, .string s, .slice na nb nc, .slice qa qm qc, .slice ka m kc] 50).below (w' := (w.alloc (.cells #[.int .i64 kd, .int .i64 at_, .int .i64 nn, .string s, .slice na nb nc, .slice qa qm qc, .slice ka m kc] 50)).alloc (.cells #[.int .i64 0, .int .i64 0, .int .i64 0, .string ⟨#[]⟩, .slice none 0 0, .slice none 0 0] 47)) (by go_grown)).kept (kept_grown hgrow) (fun e => by have := (hob.out _ e.symm).2; omega)
    have hgS : g ≠ w.heap.size := by
      rcases hat with h | h
      · have := (hob.out g h).2; omega
      · simp at h; omega
    have hlt' : ∀ b ∈ pss.flatten, b < w.heap.size := fun b hb => hO.out.lt GNode.ok b (mem_fpO.2 (.inr hb))
    clear hgrow hown hat hlt2 hpu
    obtain ⟨s_0, s_1, s_2, s_3, s_4, s_5, s_6⟩ := S2.box7
    have hsS := World.block_lt_of_cell? _ _ s_0; dsimp only at hsS
    replace LS2 := Lib.hid LS2
    go_upto_region 5 with fail
    obtain ⟨w3, hW3⟩ : ∃ W, W = w2.alloc (.cells #[.int .i64 kd, .int .i64 at_, .int .i64 nn, .string s, .slice none 0 0, .slice qa qm qc] 47) := ⟨_, rfl⟩
    rw [← hW3]
    obtain ⟨bN, hbN⟩ : ∃ b, b = w2.heap.size := ⟨_, rfl⟩
    rw [← hbN]
    have hb3 : Below w2.heap.size w2 w3 := by rw [hW3]; go_grown
    have N3 : RowAt w3 bN 0 [.int .i64 kd, .int .i64 at_, .int .i64 nn, .string s, .slice none 0 0, .slice qa qm qc] := by rw [hW3, hbN]; exact RowAt.box w2 #[_, _, _, _, _, _] _
    have NW3 : Wr w3 bN 0 6 := by rw [hW3, hbN]; exact Wr.box w2 #[_, _, _, _, _, _] _
    have S3 := S2.below hb3
    have hz3 : bN < w3.heap.size := World.block_lt_of_cell? _ _ N3.box6.1
    have LS3 : LStep A lo w (.slice va n vc) pss w3 (.slice (some ⟨g, 0, none⟩) (n + 1) cap) (pss ++ [[]]) (xs ++ [⟨0, 0, 0, ⟨#[]⟩, [], []⟩]) :=
      LS2.out.aside (S := fun _ => False) (Kept.below hb3) (hb3.mono (by omega)) (fun q h => h.elim)
    have hbN2 : w.heap.size + 2 ≤ bN := by omega
    have hgN : g ≠ bN := by
      have := LS2.out.grow.lt GNode.ok g (by rw [fpO_slice]; exact List.mem_cons_self)
      omega
    replace LS3 := Lib.hid LS3
    clear LS2 s_0 s_1 s_2 s_3 s_4 s_5 s_6 S2 hW3 hb3 hbN hsS
    obtain ⟨s_0, s_1, s_2, s_3, s_4, s_5, s_6⟩ := S3.box7
    obtain ⟨n_0, n_1, n_2, n_3, n_4, n_5⟩ := N3.box6
    go_wp2_with fail
    go_loopw [0, 20] (fun vv ii wr => ∃ (j : Nat) (v kv : Value) (qss : List (List Nat)), j ≤ m ∧ vv = v ∧ ii = .int .i64 j ∧
        Hid (LStep A lo w (.slice va n vc) pss wr v qss (xs ++ (⟨0, 0, 0, ⟨#[]⟩, [], []⟩ :: layEs (n + 1) (ks.take j)))) ∧ RowAt wr w.heap.size 0 [.int .i64 kd, .int .i64 at_, .int .i64 nn, .string s, .slice na nb nc, .slice qa qm qc, .slice ka m kc] ∧ RowAt wr bN 0 [.int .i64 kd, .int .i64 at_, .int .i64 nn, .string s, kv, .slice qa qm qc] ∧ Wr wr bN 0 6 ∧
        Hid (OwnF 3 1 intRow I64 w.heap.size wr kv (plE (n + 1) (ks.take j))) ∧ Hid (∀ b, (b = w.heap.size ∨ b = bN ∨ kv.ownBlock = some b) → v.ownBlock ≠ some b ∧ b ∉ qss.flatten) ∧ kv.ownBlock ≠ some bN ∧ kv.ownBlock ≠ some w.heap.size) (fun _ ii _ => m - (intOf ii).toNat)
    case atStart => exact ⟨0, _, .slice none 0 0, _, by omega, rfl, rfl, by simpa [layEs] using LS3, S3, N3, NW3, OwnF.empty, (fun b hb => by
      rcases hb with rfl | rfl | hb
      · exact ⟨fun h => hgS (by simpa [Value.ownBlock] using h), fun h => by have := hlt' _ (by simpa using h); omega⟩
      · exact ⟨fun h => hgN (by simpa [Value.ownBlock] using h), fun h => by have := hlt' _ (by simpa using h); omega⟩
      · cases hb), by simp [Value.ownBlock], by simp [Value.ownBlock]⟩
    case round =>
      clear LS3 S3 N3 NW3 s_0 s_1 s_2 s_3 s_4 s_5 s_6 n_0 n_1 n_2 n_3 n_4 n_5 hz3
      obtain ⟨j, v, kv, qss, hj, rfl, rfl, LS, S, N, NW, OK, hD, hkN, hkS⟩ := hrel
      obtain ⟨s_0, s_1, s_2, s_3, s_4, s_5, s_6⟩ := S.box7
      obtain ⟨n_0, n_1, n_2, n_3, n_4, n_5⟩ := N.box6
      have hsS := World.block_lt_of_cell? _ _ s_0; dsimp only at hsS
      have hsN := World.block_lt_of_cell? _ _ n_0; dsimp only at hsN
      obtain ⟨va', vc', rfl⟩ := LS.out.grow.form
      obtain ⟨ba, bc, rfl⟩ := OK.out.form
      have hlk : (plE (n + 1) (ks.take j)).length = j := by rw [plE_len, List.length_take]; have := hm.out; omega
      obtain ⟨ys, hys⟩ : ∃ ys, ys = xs ++ (⟨0, 0, 0, ⟨#[]⟩, [], []⟩ :: layEs (n + 1) (ks.take j)) := ⟨_, rfl⟩
      have hql : ys.length = n + 1 + szEs (ks.take j) := by
        rw [hys, List.length_append, List.length_cons, layEs_len, ← hn.out]; omega
      have hle := szEs_take ks j
      have hzr := LS.out.below.size
      rw [← hys] at LS hD ⊢
      rw [hlk] at n_4 N OK hkN hkS hD
      have hltA : ∀ q, A q → q < wr.heap.size := fun q hq => by have := hA.out q hq; omega
      have hAv' : ∀ q, A q → (Value.slice va' ys.length vc').ownBlock ≠ some q := fun q hq h => by
        rcases LS.out.blk q h with h1 | h1
        · exact hAv.out q hq h1
        · have := hA.out q hq; omega
      by_cases hjm : j < m
      · obtain ⟨g1, o1, rfl, hA1, hkk⟩ := hk.out (by omega)
        obtain ⟨k, hkj⟩ : ∃ k, ks[j]? = some k := ⟨_, List.getElem?_eq_getElem (by have := hm.out; omega)⟩
        obtain ⟨q, hq, hP⟩ := hkk j k hkj
        have htk := take_snoc' hkj
        have hsz1 : szEs (ks.take j) + szE k ≤ szEs ks := by
          have h1 := szEs_take ks (j + 1)
          rw [htk, szEs_append] at h1
          simpa [szEs] using h1
        have hK : Kept (fun x => (Value.slice va n vc).ownBlock = some x) w wr := LS.out.kept
        have hq' : RowAt wr g1 (o1 + j * 7) q := hq.kept hK (fun h => hAv.out g1 hA1 h)
        have hP' := hP.kept hK (fun x hx h => hAv.out x hx h)
        have hownK : wr.ownsRow w.heap.size 3 1 (.slice ba j bc) j (rowsOf intRow (plE (n + 1) (ks.take j))) := by have h := OK.out.1; rw [hlk] at h; exact h
        have hobK := own_base hownK
        have nbN : ∀ W (h : W ∈ [bN, w.heap.size]), ¬ (some W = (Value.slice ba j bc).ownBlock) := fun W h e => by
          simp at h
          rcases h with rfl | rfl
          · exact hkN e.symm
          · exact hkS e.symm
        have hOK2 := OK.out.2
        have hsepL := LS.out.sep
        replace hownK := Lib.hid hownK; replace hobK := Lib.hid hobK; replace nbN := Lib.hid nbN; replace hOK2 := Lib.hid hOK2; replace hsepL := Lib.hid hsepL
        replace hkj := Lib.hid hkj; replace hlk := Lib.hid hlk; replace hltA := Lib.hid hltA; replace hAv' := Lib.hid hAv'; replace htk := Lib.hid htk
        clear hkk OK
        generalize hnl : ys.length = nl at *
        have hnl2 : nl ≤ 16777216 := by omega
        have hn64 : I64 ((nl : Nat) : Int) := by constructor <;> omega
        have hKw : Kept (fun x => (Value.slice va n vc).ownBlock = some x) w wr := hK
        replace hnl := Lib.hid hnl; replace hql := Lib.hid hql; replace hys := Lib.hid hys; replace hn64 := Lib.hid hn64; replace hKw := Lib.hid hKw; replace hP := Lib.hid hP; replace hP' := Lib.hid hP'
        clear hK hq
        go_upto_region 9 with ((at_builtin; refine wpList_append_lies _ rfl _ _ _ rfl (w.heap.size) 3 iJ _ 1 8 Tryz.underlying44 IJ.out IJ0.out IJ1.out IJ2.out rfl (by omega) (.slice ba j bc) (j) (rowsOf intRow (plE (n + 1) (ks.take j))) rfl (own_below hownK.out (by go_grown)) ⟨wr.heap.size, 0, none⟩ 1 1 [.int .i64 (nl : Int)] rfl rfl (World.news_of_block (cs := #[.int .i64 (nl : Int)]) (t := 3) (fr := (0, 0)) (heap_alloc_new' _ _ _ (by simp))) (by intro u hu; simp at hu; (first | (subst hu; rfl) | (rcases hu with rfl | rfl | rfl | rfl <;> rfl) | (rcases hu with rfl | rfl | rfl | rfl | rfl | rfl <;> rfl) | (rcases hu with rfl | rfl | rfl | rfl | rfl | rfl | rfl <;> rfl) | (rcases hu with rfl | rfl | rfl | rfl | rfl | rfl | rfl | rfl | rfl <;> rfl))) (by omega) (by unfold maxLen; omega) (by omega) (by simp; omega) _ rfl ?_; intro g2 cap2 w5 hown hgrow hat hlt2); have k5 := kept_of hgrow (w := wr) (by go_grown); have N5 := N.kept k5 (nbN.out _ (by simp)); have NW5 := NW.kept k5 (nbN.out _ (by simp)); have S5 := S.kept k5 (nbN.out _ (by simp)); obtain ⟨m_0, m_1, m_2, m_3, m_4, m_5⟩ := N5.box6; have mf_4 := NW5.frz 4 (by omega))
        obtain ⟨w6, hW6⟩ : ∃ W, W = w5.setCell ⟨bN, 4, none⟩ (.slice (some ⟨g2, 0, none⟩) (j + 1) cap2) := ⟨_, rfl⟩
        rw [← hW6]
        have hz5 : wr.heap.size + 1 ≤ w5.heap.size := by have := hgrow.size; simpa using this
        have hz6 : w6.heap.size = w5.heap.size := by rw [hW6]; simp [World.setCell]
        have k6 : Kept (· = bN) w5 w6 := by rw [hW6]; exact Kept.set (S := (· = bN)) (p := ⟨bN, 4, none⟩) (Kept.refl _ _) rfl _
        have k56 : Kept (fun q => some q = (Value.slice ba j bc).ownBlock ∨ q = bN) wr w6 := fun x h1 h2 => (k6 x (by omega) (fun e => h2 (.inr e))).trans (k5 x h1 fun e => h2 (.inl e))
        have N6 : RowAt w6 bN 0 [.int .i64 kd, .int .i64 at_, .int .i64 nn, .string s, .slice (some ⟨g2, 0, none⟩) (j + 1) cap2, .slice qa qm qc] := by rw [hW6]; exact N5.putAt (j := 4) (by simp) _
        have NW6 : Wr w6 bN 0 6 := by rw [hW6]; exact NW5.set 4 _
        have S6 : RowAt w6 w.heap.size 0 [.int .i64 kd, .int .i64 at_, .int .i64 nn, .string s, .slice na nb nc, .slice qa qm qc, .slice (some ⟨g1, o1, none⟩) m kc] := S5.kept k6 (by omega)
        have hg2 : g2 ≠ bN ∧ g2 ≠ w.heap.size ∧ w.heap.size ≤ g2 := by
          rcases hat with h | h
          · have := hobK.out g2 h
            exact ⟨fun e => hkN (e ▸ h), fun e => hkS (e ▸ h), this.1⟩
          · simp at h; omega
        have hpl : plE (n + 1) (ks.take (j + 1)) = plE (n + 1) (ks.take j) ++ [(nl : Int)] := by
          rw [htk.out, plE_append, hql.out]; rfl
        have OK6 : OwnF 3 1 intRow I64 w.heap.size w6 (.slice (some ⟨g2, 0, none⟩) (j + 1) cap2) (plE (n + 1) (ks.take (j + 1))) := by
          refine OwnF.kept (S := (· = bN)) ⟨?_, fun y hy => ?_⟩ k6 (fun x hx e => ?_)
          · rw [hpl]
            simp only [List.length_append, hlk.out, List.length_singleton, rowsOf_append, rowsOf_one]
            exact hown
          · rw [hpl] at hy
            rcases List.mem_append.1 hy with h | h
            · exact hOK2.out y h
            · simp only [List.mem_singleton] at h; rw [h]; exact hn64.out
          · obtain rfl : g2 = x := by simpa [Value.ownBlock] using hx
            exact hg2.1 e
        have hB6 : Below lo wr w6 := by
          rw [hW6]
          exact (below_grown2 (wr := wr) (w := wr) (base := lo) hgrow (by go_grown) (Below.refl _ _) (by omega) (own_lo hownK.out hlo)).setCell (p := ⟨bN, 4, none⟩) (by show lo ≤ bN; omega) _
        have LS6 := LS.out.aside k56 hB6 (fun q hq => by
          rcases hq with hq | hq
          · exact ⟨(hobK.out q hq.symm).1, hD.out q (.inr (.inr hq.symm))⟩
          · subst hq; exact ⟨by omega, hD.out q (.inr (.inl rfl))⟩)
        have hD6 : ∀ b, (b = w.heap.size ∨ b = bN ∨ (Value.slice (some ⟨g2, 0, none⟩) (j + 1) cap2).ownBlock = some b) → (Value.slice va' nl vc').ownBlock ≠ some b ∧ b ∉ qss.flatten := fun b hb => by
          rcases hb with hb | hb | hb
          · exact hD.out b (.inl hb)
          · exact hD.out b (.inr (.inl hb))
          · obtain rfl : g2 = b := by simpa [Value.ownBlock] using hb
            rcases hat with h | h
            · exact hD.out g2 (.inr (.inr h))
            · simp at h
              have hl := LS.out.grow.lt GNode.ok
              exact ⟨fun e => by have := hl g2 (mem_fpO.2 (.inl e)); omega, fun e => by have := hl g2 (mem_fpO.2 (.inr e)); omega⟩
        have hP6 := (hP.out.kept LS6.kept (fun x hx h => hAv.out x hx h))
        have hc := ih.out k A (.slice va' nl vc') q qss ys lo w6 hP6 LS6.grow LS6.sep (by omega) (fun q hq => by have := hltA.out q hq; omega) hAv'.out (by have := hnl.out; have := hql.out; omega)
        have hq6 := hq'.kept k56 (fun h => by
          rcases h with h | h
          · have := (hobK.out g1 h.symm).1; have := hA.out g1 hA1; omega
          · have := hA.out g1 hA1; omega)
        obtain ⟨xa, xb, xc, ya, yc, za, zc, rfl⟩ := hP.out.form
        obtain ⟨f_0, f_1, f_2, f_3, f_4, f_5, f_6⟩ := hq6.cells7
        obtain ⟨t_0, t_1, t_2, t_3, t_4, t_5, t_6⟩ := S6.box7
        have hlt6 : ∀ b, (b = w.heap.size ∨ b = bN ∨ (Value.slice (some ⟨g2, 0, none⟩) (j + 1) cap2).ownBlock = some b) → b < w6.heap.size := fun b hb => by
          rcases hb with hb | hb | hb
          · omega
          · omega
          · exact (OK6.base b hb).2
        clear m_0 m_1 m_2 m_3 m_4 m_5 mf_4 N5 NW5 S5 k5 k6 hgrow hown hat S N NW s_0 s_1 s_2 s_3 s_4 s_5 s_6 n_0 n_1 n_2 n_3 n_4 n_5 k56 hW6 hlt2 LS hD hP' hP6 hq' hq6
        have hsS6 := World.block_lt_of_cell? _ _ t_0; dsimp only at hsS6
        replace hc := Lib.hid hc; replace LS6 := Lib.hid LS6; replace OK6 := Lib.hid OK6; replace hg2 := Lib.hid hg2; replace hz6 := Lib.hid hz6; replace hD6 := Lib.hid hD6; replace hpl := Lib.hid hpl; replace hlt6 := Lib.hid hlt6; replace hB6 := Lib.hid hB6
        go_upto_region 10 with (go_at_call 15; (with_reducible refine (hc.out).mono ?_); rintro e w7 ⟨v7, qs7, rfl, LS7⟩)
        have hz7 := LS7.below.size
        have hly : ys ++ layE ys.length k = xs ++ (⟨0, 0, 0, ⟨#[]⟩, [], []⟩ :: layEs (n + 1) (ks.take (j + 1))) := by
          rw [htk.out, layEs_append, hnl.out, hql.out, hys.out]
          simp [layEs]
        have LS70 : Hid (LStep A lo w (.slice va n vc) pss w7 v7 qs7 (xs ++ (⟨0, 0, 0, ⟨#[]⟩, [], []⟩ :: layEs (n + 1) (ks.take (j + 1))))) := by
          have h1 := LS6.out.trans LS7 (fun q h => .inl h)
          rw [hly] at h1
          exact h1
        have hnk : ∀ b, (b = w.heap.size ∨ b = bN ∨ (Value.slice (some ⟨g2, 0, none⟩) (j + 1) cap2).ownBlock = some b) → ¬ (Value.slice va' nl vc').ownBlock = some b := fun b hb => (hD6.out b hb).1
        have S7 := S6.kept LS7.kept (hnk _ (.inl rfl))
        have N7 := N6.kept LS7.kept (hnk _ (.inr (.inl rfl)))
        have NW7 := NW6.kept LS7.kept (hnk _ (.inr (.inl rfl)))
        have OK7 := OK6.out.kept LS7.kept (fun x hx h => hnk x (.inr (.inr hx)) h)
        have hD7 : Hid (∀ b, (b = w.heap.size ∨ b = bN ∨ (Value.slice (some ⟨g2, 0, none⟩) (j + 1) cap2).ownBlock = some b) → v7.ownBlock ≠ some b ∧ b ∉ qs7.flatten) := fun b hb => by
          have hlt := hlt6.out b hb
          refine ⟨fun h => ?_, fun h => ?_⟩
          · rcases LS7.blk b h with h1 | h1
            · exact hnk b hb h1
            · omega
          · rcases LS7.new b h with h1 | h1 | h1
            · exact (hD6.out b hb).2 h1
            · have hAb := hA.out b h1
              rcases hb with hb | hb | hb
              · omega
              · omega
              · have := (OK6.out.base b hb).1; omega
            · omega
        have hgb : (Value.slice (some ⟨g2, 0, none⟩) (j + 1) cap2).ownBlock ≠ some bN := fun h => hg2.out.1 (by simpa [Value.ownBlock] using h)
        have hgs : (Value.slice (some ⟨g2, 0, none⟩) (j + 1) cap2).ownBlock ≠ some w.heap.size := fun h => hg2.out.2.1 (by simpa [Value.ownBlock] using h)
        clear LS7 S6 N6 NW6 OK6 LS6 t_0 t_1 t_2 t_3 t_4 t_5 t_6 f_0 f_1 f_2 f_3 f_4 f_5 f_6 hlt6 hc hnk hly hpl
        replace OK7 := Lib.hid OK7
        go_wp2_with fail
        go_roundw
        case rel => exact ⟨j + 1, v7, _, qs7, by omega, rfl, by go_num, LS70, S7, N7, NW7, OK7, hD7, hgb, hgs⟩
        case measure => simp [intOf]; omega
      · obtain rfl : j = m := by omega
        have hfull : ks.take j = ks := List.take_of_length_le (by have := hm.out; omega)
        rw [hfull] at hys OK hlk hql
        clear hfull hk
        obtain ⟨rows', hr1, hr2⟩ := LS.out.grow
        obtain ⟨gv, cv, hv, -⟩ := own_cells hr1 (by omega)
        obtain ⟨rfl, rfl⟩ : va' = some ⟨gv, 0, none⟩ ∧ vc' = cv := by injection hv with e1 e2 e3; exact ⟨e1, e3⟩
        clear hv hr1 hr2
        obtain ⟨kb, hkS2, hkN2, hkB⟩ := OK.out.slO2 flatInt
        have hobk := own_base OK.out.1
        have hps' := hps.out.kept GPat.ok LS.out.kept (fun b hb h => hAv.out b (hqb.out b hb) h)
        obtain ⟨hcell, pss', LF⟩ := LS.out.store (x := ⟨kd, at_, nn, s, plE (n + 1) ks, ps⟩) rfl (show n < ys.length by omega) hwfI hkS2 hps' (fun b hb => ⟨fun e => by subst e; exact (hD.out b (.inr (.inr (hkB b hb)))).1 rfl, (hobk b (hkB b hb)).1⟩) (fun b hb => ⟨fun e => by subst e; exact hAv' b (hqb.out b hb) rfl, .inl (hqb.out b hb)⟩)
        have hset : ys.set n ⟨kd, at_, nn, s, plE (n + 1) ks, ps⟩ = xs ++ (⟨kd, at_, nn, s, plE (n + 1) ks, ps⟩ :: layEs (n + 1) ks) := by
          rw [hys, hn.out]; exact ys_split
        rw [hset] at LF
        have hfin := hpost.out _ _ _ LF
        obtain ⟨z0, z_0, y_0⟩ := hcell 0 (by omega); rw [Nat.add_zero] at z_0 y_0; obtain ⟨z1, z_1, y_1⟩ := hcell 1 (by omega); obtain ⟨z2, z_2, y_2⟩ := hcell 2 (by omega); obtain ⟨z3, z_3, y_3⟩ := hcell 3 (by omega); obtain ⟨z4, z_4, y_4⟩ := hcell 4 (by omega); obtain ⟨z5, z_5, y_5⟩ := hcell 5 (by omega)
        have hnl : n < ys.length := by omega
        replace hfin := Lib.hid hfin; replace hql := Lib.hid hql; replace hset := Lib.hid hset; replace hys := Lib.hid hys; replace LF := Lib.hid LF; replace hps' := Lib.hid hps'; replace hkS2 := Lib.hid hkS2; replace hlk := Lib.hid hlk
        clear OK LS hD hcell hobk hAv'
        generalize hnl2 : ys.length = nl at *
        replace hnl2 := Lib.hid hnl2
        go_wp2_with fail
        exact hfin.out
end Go.Proofs.YtnmmfcnkpcigoaaGreat
