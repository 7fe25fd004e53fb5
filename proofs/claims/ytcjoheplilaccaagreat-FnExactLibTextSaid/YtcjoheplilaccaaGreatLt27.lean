/- Parts of the proof, merged: Flt2. -/
import Derived.Test.YtcjoheplilaccaaGreatLt26
/- The program's flat: its walk. -/
namespace Go.Proofs.YtcjoheplilaccaaGreat
open Go.RowKit
set_option linter.unusedVariables false
set_option linter.unusedSimpArgs false
attribute [local go_sem] Ext.cell

def FltPost (lo : Nat) (w : World) (v : Value) (pss : List (List Nat)) (xs : List GNode) (l : List GNode) (e : Ending) (w' : World) : Prop :=
  ∃ v' pss', e = .returned (.tuple #[v', .int .i64 (xs.length : Int)]) ∧ NStep lo w v pss w' v' pss' (xs ++ l)

set_option maxRecDepth 100000 in
set_option maxHeartbeats 16000000 in
theorem flat_c : ∀ (f : Nat) (t : ExT) (A : Nat → Prop) (v pv : Value) (pss : List (List Nat)) (xs : List GNode) (lo : Nat) (w : World), ExR f A w pv t → OwnN lo w v pss xs → lo ≤ w.heap.size → (∀ q, A q → q < w.heap.size) → (∀ q, A q → v.ownBlock ≠ some q) → xs.length + szE t ≤ 16777216 →
    Calls Tryz.prog 37 #[v, pv] w (FltPost lo w v pss xs (layE xs.length t))
  | 0, t, A, v, pv, pss, xs, lo, w, h, _, _, _, _, _ => absurd h (by simp [ExR])
  | f + 1, t, A, v, pv, pss, xs, lo, w, h, hO, hlo, hA, hAv, hsz => by
    have ih := flat_c f
    obtain ⟨b, ka, kc, qv, bs, rfl, hAb, hwf, hps, hr, hq, hqb, kl, km, hk⟩ := h
    obtain ⟨kd, at_, nn, s, ks, ps⟩ := t
    simp only [ExT.kind, ExT.at_, ExT.n, ExT.s, ExT.kids, ExT.pats] at *
    obtain ⟨hps1, hps2⟩ := hps
    obtain ⟨qa, qc, rfl⟩ := hq.form
    have hlay := layE_mk xs.length kd at_ nn s ks ps
    have hszE := szE_mk kd at_ nn s ks ps
    rw [hszE] at hsz
    have cP := fun W (hW : Below w.heap.size w W) => copyPats_o ps hps1 hps2 _ 0 W ((hq.sl GPat.ok (fun _ _ => Nat.zero_le _)).below GPat.good hW)
    obtain ⟨m, hm⟩ : ∃ m, m = ks.length := ⟨_, rfl⟩
    obtain ⟨qm, hqm⟩ : ∃ m, m = ps.length := ⟨_, rfl⟩
    rw [← hm] at kl hk hr
    rw [← hqm] at hr cP
    obtain ⟨va, vc, rfl⟩ := hO.form
    obtain ⟨rows, hown0, hrows⟩ := hO.grow
    have hml : m ≤ szEs ks := by rw [hm]; exact len_szEs ks
    have hpost : ∀ n, n = xs.length → ∀ e W, (∃ v' pss', e = .returned (.tuple #[v', .int .i64 (n : Int)]) ∧ NStep lo w (.slice va n vc) pss W v' pss' (xs ++ (⟨kd, at_, nn, s, plE (n + 1) ks, ps⟩ :: layEs (n + 1) ks))) →
        FltPost lo w (.slice va n vc) pss xs (layE n (.mk kd at_ nn s ks ps)) e W := fun n hn e W h => by subst hn; rw [hlay]; exact h
    have hwfI : I64 kd ∧ I64 at_ ∧ I64 nn ∧ StrOk s := hwf
    obtain ⟨n, hn⟩ : ∃ n, n = xs.length := ⟨_, rfl⟩
    rw [← hn] at hown0 hO hsz hAv ⊢
    replace hpost := hpost n hn
    have hpu := fun w1 w2 (pv : Value) (bs : List Nat) (cap g : Nat) (cs : Array Value) (T : TypeId) => OwnN.push (w1 := w1) (w2 := w2) (pv := pv) (bs := bs) (cap := cap) (g := g) (cs := cs) (T := T) (ps := ps) (kd := kd) (at_ := at_) (nn := nn) (s := s) hO hlo hown0 hrows hn
    generalize FltPost lo w (.slice va n vc) pss xs (layE n (.mk kd at_ nn s ks ps)) = P at *
    obtain ⟨r_0, r_1, r_2, r_3, r_4, r_5⟩ := hr.box6
    have hbl := World.block_lt_of_cell? _ _ r_0; dsimp only at hbl
    replace hm := Lib.hid hm; replace hn := Lib.hid hn; replace hlay := Lib.hid hlay; replace hszE := Lib.hid hszE; replace ih := Lib.hid ih; replace hk := Lib.hid hk; replace hqm := Lib.hid hqm
    replace hown0 := Lib.hid hown0; replace hO := Lib.hid hO; replace hA := Lib.hid hA; replace hAv := Lib.hid hAv; replace hpost := Lib.hid hpost; replace hpu := Lib.hid hpu; replace cP := Lib.hid cP
    clear hps2 hq hqb hrows
    obtain ⟨iD, hi0, hz0, hz1, hz2⟩ := info_parts info_Node; have ID := Lib.hid hi0; have ID0 := Lib.hid hz0; have ID1 := Lib.hid hz1; have ID2 := Lib.hid hz2; clear hi0 hz0 hz1 hz2
    obtain ⟨iJ, hi0, hz0, hz1, hz2⟩ := info_parts info_intE; have IJ := Lib.hid hi0; have IJ0 := Lib.hid hz0; have IJ1 := Lib.hid hz1; have IJ2 := Lib.hid hz2; clear hi0 hz0 hz1 hz2
    go_enter Tryz.func37, Tryz.ntmps37
    go_upto_region 2 with fail
    go_cut [0] (fun sx wx => ∃ g cap pss1, sx = .slice (some ⟨g, 0, none⟩) (n + 1) cap ∧ NStep lo w (.slice va n vc) pss wx sx pss1 (xs ++ [⟨kd, at_, nn, s, [], ps⟩]))
    case first =>
      go_region_held3 (fun w' => w'.cell? ⟨b, 0, none⟩ = some (.int .i64 kd) ∧ w'.cell? ⟨b, 1, none⟩ = some (.int .i64 at_) ∧ w'.cell? ⟨b, 2, none⟩ = some (.int .i64 nn) ∧ w'.cell? ⟨b, 3, none⟩ = some (.string s) ∧ w'.cell? ⟨b, 4, none⟩ = some (.slice ka m kc) ∧ w'.cell? ⟨b, 5, none⟩ = some (.slice qa qm qc))
        (first | exact ⟨r_0, r_1, r_2, r_3, r_4, r_5⟩ | exact ⟨t_0, t_1, t_2, t_3, t_4, t_5⟩ | exact ⟨u_0, u_1, u_2, u_3, u_4, u_5⟩ | go_keep)
        (first
          | (go_at_call 57; (with_reducible refine (cP.out _ (by go_grown)).mono ?_); rintro e w1 ⟨pv1, bs1, rfl, SP, nP, fP, hbP⟩; obtain ⟨a1, k1, rfl⟩ := SP.form; rw [← hqm.out] at SP ⊢; have hb1 : Below w.heap.size w w1 := Below.trans (by go_grown) hbP; obtain ⟨t_0, t_1, t_2, t_3, t_4, t_5⟩ := (hr.below hb1).box6; have hbl' : b < w1.heap.size := World.block_lt_of_cell? _ _ t_0; have hz1 := hb1.size; replace SP := Lib.hid SP; replace hb1 := Lib.hid hb1; clear hbP)
          | ((refine step_append_lies _ (by rfl) _ _ _ (by rfl) (lo) 100 iD _ 6 88 Tryz.underlying44 ID.out ID0.out ID1.out ID2.out rfl (by omega) _ (n) (rows.flatten) (by rfl) (own_below hown0.out (hb1.out.trans (Below.mono (by go_grown) hb1.out.size))) ⟨w1.heap.size, 0, none⟩ 1 1 [.int .i64 kd, .int .i64 at_, .int .i64 nn, .string s, .slice none 0 0, .slice a1 qm k1] (by rfl) (by rfl) (World.news_of_block (cs := #[.int .i64 kd, .int .i64 at_, .int .i64 nn, .string s, .slice none 0 0, .slice a1 qm k1]) (t := 100) (fr := (0, 0)) (heap_alloc_new' _ _ _ (by simp))) (by intro u hu; simp at hu; (first | (subst hu; rfl) | (rcases hu with rfl | rfl | rfl | rfl <;> rfl) | (rcases hu with rfl | rfl | rfl | rfl | rfl | rfl <;> rfl) | (rcases hu with rfl | rfl | rfl | rfl | rfl | rfl | rfl <;> rfl))) (by omega) (by unfold maxLen; omega) (by omega) (by simp; omega) _ rfl ?_; intro g cap w2 hown hgrow hat hlt2); have k6 := kept_of hgrow (w := w) (hb1.out.trans (Below.mono (by go_grown) hb1.out.size)); obtain ⟨u_0, u_1, u_2, u_3, u_4, u_5⟩ := (hr.kept k6 (fun e => hAv.out b hAb e.symm)).box6))
      all_goals go_wp2_with fail
      all_goals (go_meet; exact ⟨g, cap, _, rfl, hpu.out _ _ _ _ _ _ _ _ hb1.out hwfI SP.out nP fP hgrow hown hat⟩)
    obtain ⟨w2, hw2⟩ : ∃ W, W = wc := ⟨_, rfl⟩
    subst hw2
    obtain ⟨g, cap, pss1, rfl, NS⟩ := hcut
    have hr2 := hr.kept NS.kept (fun h => hAv.out b hAb h)
    have hz2 := NS.below.size
    clear r_0 r_1 r_2 r_3 r_4 r_5
    obtain ⟨r_0, r_1, r_2, r_3, r_4, r_5⟩ := hr2.box6
    have hbl2 := World.block_lt_of_cell? _ _ r_0; dsimp only at hbl2
    replace NS := Lib.hid NS
    go_upto_region 4 with fail
    obtain ⟨w3, hW3⟩ : ∃ W, W = w2.alloc (.cells #[] 3) := ⟨_, rfl⟩
    rw [← hW3]
    have hb3 : Below w2.heap.size w2 w3 := by rw [hW3]; go_grown
    have hz3 : w2.heap.size < w3.heap.size := by rw [hW3]; simp
    have OK3 : OwnF 3 1 intRow I64 w2.heap.size w3 (.slice (some ⟨w2.heap.size, 0, none⟩) 0 0) [] := ⟨own_empty_at (by rw [hW3]; exact heap_alloc_new' _ _ _ rfl) (Nat.le_refl _), fun x hx => by cases hx⟩
    have NS3 : NStep lo w (.slice va n vc) pss w3 (.slice (some ⟨g, 0, none⟩) (n + 1) cap) pss1 (xs ++ [⟨kd, at_, nn, s, [], ps⟩]) :=
      ⟨NS.out.own.below hb3, NS.out.below.trans (hb3.mono (by omega)), NS.out.kept.trans hz2 (Kept.below hb3), NS.out.blk, NS.out.new⟩
    have hD3 : ∀ b, (Value.slice (some ⟨w2.heap.size, 0, none⟩) 0 0).ownBlock = some b → b ∉ fpO (.slice (some ⟨g, 0, none⟩) (n + 1) cap) pss1 := fun b hb h => by
      obtain rfl : w2.heap.size = b := by simpa [Value.ownBlock] using hb
      have := NS.out.own.lt _ h
      omega
    have hr3 := hr2.below hb3
    clear r_0 r_1 r_2 r_3 r_4 r_5 NS hW3
    obtain ⟨r_0, r_1, r_2, r_3, r_4, r_5⟩ := hr3.box6
    obtain ⟨bK, hbK⟩ : ∃ x, x = w2.heap.size := ⟨_, rfl⟩
    rw [← hbK] at OK3 hD3 hz3 hz2 ⊢
    clear hr2 hbl2 hb3
    replace hbK := Lib.hid hbK
    replace NS3 := Lib.hid NS3; replace OK3 := Lib.hid OK3; replace hD3 := Lib.hid hD3
    go_wp2_with fail
    go_loopw [0, 7, 45] (fun vv kk ii wr => ∃ (j : Nat) (v kv : Value) (qss : List (List Nat)), j ≤ m ∧ vv = v ∧ kk = kv ∧ ii = .int .i64 j ∧
        Hid (NStep lo w (.slice va n vc) pss wr v qss (xs ++ (⟨kd, at_, nn, s, [], ps⟩ :: layEs (n + 1) (ks.take j)))) ∧
        Hid (OwnF 3 1 intRow I64 bK wr kv (plE (n + 1) (ks.take j))) ∧ Hid (∀ b, kv.ownBlock = some b → b ∉ fpO v qss) ∧ bK < wr.heap.size) (fun _ _ ii _ => m - (intOf ii).toNat)
    case atStart => exact ⟨0, _, _, pss1, by omega, rfl, rfl, rfl, by simpa [layEs] using NS3, OK3, hD3, hz3⟩
    case round =>
      clear NS3 OK3 hD3 hr3 r_0 r_1 r_2 r_3 r_4 r_5 hz3
      obtain ⟨j, v, kv, qss, hj, rfl, rfl, rfl, NS, OK, hD, hbKr⟩ := hrel
      obtain ⟨va', vc', rfl⟩ := NS.out.own.form
      obtain ⟨ba, bc, rfl⟩ := OK.out.form
      have hlk : (plE (n + 1) (ks.take j)).length = j := by rw [plE_len, List.length_take]; have := hm.out; omega
      obtain ⟨ys, hys⟩ : ∃ ys, ys = xs ++ (⟨kd, at_, nn, s, [], ps⟩ :: layEs (n + 1) (ks.take j)) := ⟨_, rfl⟩
      have hql : ys.length = n + 1 + szEs (ks.take j) := by
        rw [hys, List.length_append, List.length_cons, layEs_len, ← hn.out]; omega
      have hle := szEs_take ks j
      have hzr := NS.out.below.size
      rw [← hys] at NS hD ⊢
      rw [hlk] at OK hD ⊢
      have hltA : ∀ q, A q → q < wr.heap.size := fun q hq => by have := hA.out q hq; omega
      have hAv' : ∀ q, A q → (Value.slice va' ys.length vc').ownBlock ≠ some q := fun q hq h => by
        rcases NS.out.blk q h with h1 | h1
        · exact hAv.out q hq h1
        · have := hA.out q hq; omega
      by_cases hjm : j < m
      · obtain ⟨g1, o1, rfl, hA1, hkk⟩ := hk.out (by omega)
        obtain ⟨k, hkj⟩ : ∃ k, ks[j]? = some k := ⟨_, List.getElem?_eq_getElem (by have := hm.out; omega)⟩
        obtain ⟨q, hq, hP⟩ := hkk j k hkj
        have htk := take_snoc' hkj
        have hsz1 : szEs (ks.take j) + szE k ≤ szEs ks := by
          have h1 := szEs_take ks (j + 1)
          rw [htk, szEs_append] at h1
          simpa [szEs] using h1
        have hK : Kept (fun x => (Value.slice va n vc).ownBlock = some x) w wr := NS.out.kept
        have e_0 : wr.cell? ⟨g1, o1 + j, none⟩ = some q := by rw [World.cell?_of_block (w := w) (a := ⟨g1, o1 + j, none⟩) (hK g1 (World.block_lt_of_cell? _ _ hq) (fun h => hAv.out g1 hA1 h))]; exact hq
        have hP' := hP.kept hK (fun x hx h => hAv.out x hx h)
        obtain ⟨qb, rfl⟩ := hP.form
        have hc := ih.out k _ _ _ _ _ _ wr hP' NS.out.own (by omega) hltA hAv' (by omega)
        have hbg1 : g1 < wr.heap.size := World.block_lt_of_cell? _ _ e_0
        replace hc := Lib.hid hc; replace hkj := Lib.hid hkj; replace hlk := Lib.hid hlk; replace hltA := Lib.hid hltA; replace hAv' := Lib.hid hAv'
        clear hkk hP hP' hK
        generalize hnl : ys.length = nl at *
        have hnl2 : nl ≤ 16777216 := by omega
        replace hnl := Lib.hid hnl; replace hql := Lib.hid hql; replace htk := Lib.hid htk; replace hys := Lib.hid hys
        go_upto_region 8 with (go_at_call 37; (with_reducible refine (hc.out).mono ?_); rintro e w7 ⟨v7, qs7, he, N7⟩; rw [hnl.out] at he; subst he)
        have hz7 := N7.below.size
        have N70 := NS.out.trans N7
        have hob := own_base OK.out.1
        have OK7 := OK.out.kept N7.kept (fun x hx h => hD.out x hx (mem_fpO.2 (.inl h)))
        have hD7 : ∀ b, (Value.slice ba j bc).ownBlock = some b → b ∉ fpO v7 qs7 := fun b hb h => by
          rcases N7.new b h with h1 | h1
          · exact hD.out b hb h1
          · have := (hob b hb).2; omega
        have hownK : w7.ownsRow bK 3 1 (.slice ba j bc) j (rowsOf intRow (plE (n + 1) (ks.take j))) := by have h := OK7.1; rw [hlk.out] at h; exact h
        have hobK7 := own_base hownK
        have hn64 : I64 ((nl : Nat) : Int) := by constructor <;> omega
        have hOK2 := OK.out.2
        have hbK7 : bK ≤ w7.heap.size := by omega
        replace hownK := Lib.hid hownK; replace N70 := Lib.hid N70; replace hD7 := Lib.hid hD7; replace hobK7 := Lib.hid hobK7; replace hOK2 := Lib.hid hOK2; replace hn64 := Lib.hid hn64
        clear N7 OK7 NS OK hD hc e_0 hob
        go_upto_region 10 with (at_builtin; refine wpList_append_lies _ rfl _ _ _ rfl (bK) 3 iJ _ 1 8 Tryz.underlying56 IJ.out IJ0.out IJ1.out IJ2.out rfl (by omega) (.slice ba j bc) (j) (rowsOf intRow (plE (n + 1) (ks.take j))) rfl (own_below hownK.out (by go_grown)) ⟨w7.heap.size, 0, none⟩ 1 1 [.int .i64 (nl : Int)] rfl rfl (World.news_of_block (cs := #[.int .i64 (nl : Int)]) (t := 3) (fr := (0, 0)) (heap_alloc_new' _ _ _ (by simp))) (by intro u hu; simp at hu; (first | (subst hu; rfl) | (rcases hu with rfl | rfl | rfl | rfl <;> rfl) | (rcases hu with rfl | rfl | rfl | rfl | rfl | rfl <;> rfl) | (rcases hu with rfl | rfl | rfl | rfl | rfl | rfl | rfl <;> rfl) | (rcases hu with rfl | rfl | rfl | rfl | rfl | rfl | rfl | rfl | rfl <;> rfl))) (by omega) (by unfold maxLen; omega) (by omega) (by simp; omega) _ rfl ?_; intro g2 cap2 w8 hown hgrow hat hlt2)
        have k8 : Kept (fun k => some k = (Value.slice ba j bc).ownBlock) w7 w8 := kept_of hgrow (w := w7) (by go_grown)
        have hz8 : w7.heap.size + 1 ≤ w8.heap.size := by have := hgrow.size; simpa using this
        have hpl : plE (n + 1) (ks.take (j + 1)) = plE (n + 1) (ks.take j) ++ [(nl : Int)] := by
          rw [htk.out, plE_append, hql.out]; rfl
        have hly : ys ++ layE nl k = xs ++ (⟨kd, at_, nn, s, [], ps⟩ :: layEs (n + 1) (ks.take (j + 1))) := by
          rw [htk.out, layEs_append, hys.out, hql.out]
          simp [layEs]
        have OK8 : Hid (OwnF 3 1 intRow I64 bK w8 (.slice (some ⟨g2, 0, none⟩) (j + 1) cap2) (plE (n + 1) (ks.take (j + 1)))) := by
          refine ⟨?_, fun y hy => ?_⟩
          · rw [hpl]
            simp only [List.length_append, hlk.out, List.length_singleton, rowsOf_append, rowsOf_one]
            exact hown
          · rw [hpl] at hy
            rcases List.mem_append.1 hy with h | h
            · exact hOK2.out y h
            · simp only [List.mem_singleton] at h; rw [h]; exact hn64.out
        have hkb : ∀ b, some b = (Value.slice ba j bc).ownBlock → w.heap.size ≤ b := fun b h => by have := (hobK7.out b h.symm).1; omega
        have NS8 : Hid (NStep lo w (.slice va n vc) pss w8 v7 qs7 (xs ++ (⟨kd, at_, nn, s, [], ps⟩ :: layEs (n + 1) (ks.take (j + 1))))) := by
          have h1 := N70.out
          rw [hly] at h1
          refine ⟨h1.own.kept k8 (fun b hb h => hD7.out b h.symm hb), below_grown2 (wr := w7) (w := w) (base := lo) hgrow (by go_grown) h1.below (by omega) (own_lo hownK.out (by omega)), fun q h2 h3 => (k8 q (by have := h1.below.size; omega) fun h4 => by have := hkb q h4; omega).trans (h1.kept q h2 h3), h1.blk, h1.new⟩
        have hD8 : Hid (∀ b, (Value.slice (some ⟨g2, 0, none⟩) (j + 1) cap2).ownBlock = some b → b ∉ fpO v7 qs7) := fun b hb h => by
          obtain rfl : g2 = b := by simpa [Value.ownBlock] using hb
          rcases hat with h1 | h1
          · exact hD7.out g2 h1 h
          · have := N70.out.own.lt g2 h
            simp at h1; omega
        clear hgrow hown hat hlt2 k8 hownK hpl hly hkb
        go_wp2_with fail
        go_roundw
        case rel => exact ⟨j + 1, v7, _, qs7, by omega, rfl, rfl, by go_num, NS8, OK8, hD8, by omega⟩
        case measure => simp [intOf]; omega
      · obtain rfl : j = m := by omega
        have hfull : ks.take j = ks := List.take_of_length_le (by have := hm.out; omega)
        rw [hfull] at hys OK hlk hql
        clear hfull hk
        have hown := NS.out.own
        obtain ⟨rows', hr1, hr2⟩ := hown.grow
        obtain ⟨gv, cv, hv, -⟩ := own_cells hr1 (by omega)
        obtain ⟨rfl, rfl⟩ : va' = some ⟨gv, 0, none⟩ ∧ vc' = cv := by injection hv with e1 e2 e3; exact ⟨e1, e3⟩
        clear hv hr1 hr2
        obtain ⟨kb, hkS, hkN, hkB⟩ := OK.out.slO2 flatInt
        have hob := own_base OK.out.1
        have hnx : ys[n]? = some ⟨kd, at_, nn, s, [], ps⟩ := by
          rw [hys, hn.out, List.getElem?_append_right (Nat.le_refl _), Nat.sub_self]; rfl
        obtain ⟨⟨z3, z_3, y_3⟩, pssF, ownF, newF⟩ := hown.setKids rfl hnx hkS hkN (fun b hb => by have := (hob b (hkB b hb)).1; omega) (fun b hb => hD.out b (hkB b hb))
        have hset : ys.set n ⟨kd, at_, nn, s, plE (n + 1) ks, ps⟩ = xs ++ (⟨kd, at_, nn, s, plE (n + 1) ks, ps⟩ :: layEs (n + 1) ks) := by
          rw [hys, hn.out, List.set_append_right _ _ (Nat.le_refl _), Nat.sub_self]; rfl
        dsimp only at ownF
        rw [hset] at ownF
        obtain ⟨W, hWe⟩ : ∃ W, W = wr.setCell ⟨gv, n * 6 + 4, none⟩ (.slice ba j bc) := ⟨_, rfl⟩
        rw [← hWe] at ownF
        have hgl := hown.lo gv (mem_fpO.2 (.inl rfl))
        have hfin : P (.returned (.tuple #[.slice (some ⟨gv, 0, none⟩) ys.length vc', .int .i64 (n : Int)])) W := by
          refine hpost.out _ _ ⟨_, pssF, rfl, ownF, ?_, ?_, NS.out.blk, fun b hb => ?_⟩
          · rw [hWe]; exact NS.out.below.setCell (p := ⟨gv, n * 6 + 4, none⟩) hgl _
          · have k1 : Kept (· = gv) wr W := by rw [hWe]; exact Kept.set (S := (· = gv)) (p := ⟨gv, n * 6 + 4, none⟩) (Kept.refl _ _) rfl _
            refine fun x h1 h2 => (k1 x (by omega) fun e => ?_).trans (NS.out.kept x h1 h2)
            subst e
            rcases NS.out.blk x rfl with h3 | h3
            · exact h2 h3
            · omega
          · rcases newF b hb with h1 | h1
            · exact NS.out.new b h1
            · have := (hob b (hkB b h1)).1; exact .inr (by omega)
        have hny : n < ys.length := by omega
        replace hfin := Lib.hid hfin; replace hql := Lib.hid hql
        clear ownF newF NS OK hkS hkB hkN hown hob hD hset hnx hgl
        generalize hnl : ys.length = nl at *
        replace hnl := Lib.hid hnl
        go_wp2_with fail
        rw [← hWe]
        exact hfin.out
end Go.Proofs.YtcjoheplilaccaaGreat
