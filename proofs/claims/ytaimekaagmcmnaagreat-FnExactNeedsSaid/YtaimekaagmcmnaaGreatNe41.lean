/- Parts of the proof, merged: Sd3, Nd5. -/
import Derived.Deep.LoopGhost
import Derived.Test.YtaimekaagmcmnaaGreatNe40
namespace Go.Proofs.YtaimekaagmcmnaaGreat
open Go.RowKit
set_option linter.unusedVariables false
set_option linter.unusedSimpArgs false
attribute [local go_sem] Ext.cell

theorem sl_lo_kept {α : Type} {R : Reading α} {sz lo : Nat} {f : α → List Value} {wf : α → Prop} (F : Flat R sz f wf) {w w' : World} {u : Value} {xs : List α} (h : Sl R sz lo w u xs) (hk : Kept (fun q => q < lo) w w') : Sl R sz lo w' u xs := by
  have hwf := F.wfs h
  obtain ⟨a, c, rfl, h1, h2, h3⟩ := h
  refine ⟨a, c, rfl, h1, h2, fun h0 => ?_⟩
  obtain ⟨b, off, hl, hb, rfl, hr⟩ := F.cells h3 h0
  have hr' := hr.kept hk (by omega)
  exact ⟨b, off, hl, rfl, fun i x hx => ⟨f x, F.back (hwf x (List.mem_of_getElem? hx)) _ _, fun j c hc => by rw [Nat.add_assoc]; exact hr' _ c (F.get hx hc)⟩⟩
theorem DefAt.kept {lo b i : Nat} {w w' : World} {d : GDef} (h : DefAt lo w b i d) (hk : Kept (fun q => q < lo) w w') (hb : lo ≤ b) : DefAt lo w' b i d :=
  let ⟨a, c, h1, h2⟩ := h; ⟨a, c, h1.kept hk (by omega), sl_lo_kept flatStr h2 hk⟩
def SdPost (names : List ByteArray) (w : World) (e : Ending) (w' : World) : Prop :=
  ∃ v all, e = .returned v ∧ (∀ n, n ∈ all ↔ Rch names n) ∧ OwnF 9 1 strRow StrOk w.heap.size w' v (libNames.filter fun n => anyS all n) ∧ Below w.heap.size w w'
theorem filt_snoc (all l : List ByteArray) (n : ByteArray) : (l ++ [n]).filter (fun n => anyS all n) = l.filter (fun n => anyS all n) ++ (if anyS all n = true then [n] else []) := by
  rw [List.filter_append]
  congr 1
  rw [List.filter_cons]
  rfl

set_option maxRecDepth 100000 in
set_option maxHeartbeats 16000000 in
theorem specNeeds_c (names : List ByteArray) (hlen : names.length ≤ 1048576) (u : Value) (lo : Nat) (w : World) (hu : Sl StrR 1 lo w u names) : Calls Tryz.prog 18 #[u] w (SdPost names w) := by
  have hno := flatStr.wfs hu
  have Hu := hu
  obtain ⟨a, c, rfl, l1, m1, hh⟩ := hu
  have hpost : ∀ W v all, (∀ n, n ∈ all ↔ Rch names n) → OwnF 9 1 strRow StrOk w.heap.size W v (libNames.filter fun n => anyS all n) → Below w.heap.size w W → SdPost names w (.returned v) W := fun W v all h1 h2 h3 => ⟨v, all, rfl, h1, h2, h3⟩
  generalize SdPost names w = Q at *
  have hO := own_new w #[] 9 1 0 rfl (by unfold maxLen; omega) w.heap.size (Nat.le_refl _)
  replace Hu := Lib.hid Hu; replace hpost := Lib.hid hpost; replace hno := Lib.hid hno
  clear hh
  obtain ⟨nn, hnn⟩ : ∃ n, n = names.length := ⟨_, rfl⟩
  rw [← hnn] at hlen l1 Hu ⊢
  replace hnn := Lib.hid hnn
  obtain ⟨iJ, hi0, hz0, hz1, hz2⟩ := info_parts info_StrLn; have IJ := Lib.hid hi0; have IJ0 := Lib.hid hz0; have IJ1 := Lib.hid hz1; have IJ2 := Lib.hid hz2; clear hi0 hz0 hz1 hz2
  go_enter Tryz.func18, Tryz.ntmps18
  go_upto_region 2 with (at_builtin; refine wpList_append_sl _ flatStr rfl _ _ _ rfl w.heap.size 9 iJ _ 16 Tryz.underlying27 IJ.out IJ0.out IJ1.out IJ2.out rfl w.heap.size 0 0 [] rfl hO lo _ names rfl (Hu.out.below StrR.good (by go_grown)) (by rw [← hnn.out]; unfold maxLen; omega) (by rw [← hnn.out]; omega) (by simp) ?_; rw [← hnn.out]; intro g cap w2 hown hgrow hg)
  have hb2 : Below w.heap.size w w2 := below_grown (by go_grown) (by simp) hO hgrow
  have O2 : OwnF 9 1 strRow StrOk w.heap.size w2 (.slice (some ⟨g, 0, none⟩) (0 + nn) cap) names := ⟨by rw [← hnn.out]; simpa using hown, hno.out⟩
  rw [Nat.zero_add] at O2
  have hg2 := (O2.base g rfl).2
  generalize (Value.slice (some ⟨g, 0, none⟩) nn cap) = av0 at *
  replace O2 := Lib.hid O2; replace hb2 := Lib.hid hb2
  clear hown hgrow hg hg2
  go_wp2_with fail
  go_loopg [3, 4] 14 (fun gk av agv wr => ∃ (ag : Bool) (l : List ByteArray), agv = .bool ag ∧ Hid (OwnF 9 1 strRow StrOk w.heap.size wr av l) ∧ Hid (∀ n ∈ names, n ∈ l) ∧ Hid (∀ n ∈ l, Rch names n) ∧ Hid (l.length + missing l ≤ names.length + 13) ∧ Hid (ag = true → missing l + 1 ≤ gk) ∧ Hid (ag = false → Shut l 13 0) ∧ Hid (Below w.heap.size w wr))
  case atStart => exact ⟨true, names, rfl, O2, Lib.hid fun n h => h, Lib.hid fun n h => .base h, Lib.hid (by have := missing_le13 names; omega), Lib.hid (fun _ => by have := missing_le13 names; omega), Lib.hid (fun h => by cases h), hb2⟩
  case round =>
    clear O2 hb2
    obtain ⟨ag, l0, rfl, O, hN, hS, hM, hag, hsh, hw⟩ := hrel
    cases ag
    · have hfin := shut_end (hsh.out rfl) hN.out hS.out
      clear hsh hag hN hS hM
      obtain ⟨va, vc, rfl⟩ := O.out.form
      have hszw := hw.out.size
      go_upto_region 17 with fail
      obtain ⟨w4, hW4⟩ : ∃ W, W = wr.alloc (.cells #[] 9) := ⟨_, rfl⟩
      rw [← hW4]
      have hb4 : Below wr.heap.size wr w4 := by rw [hW4]; go_grown
      have hz4 : w4.heap.size = wr.heap.size + 1 := by rw [hW4]; simp
      have O4 : OwnF 9 1 strRow StrOk wr.heap.size w4 (.slice (some ⟨wr.heap.size, 0, none⟩) 0 0) [] := ⟨own_empty_at (by rw [hW4]; exact heap_alloc_new' _ _ _ rfl) (Nat.le_refl _), fun x h => by cases h⟩
      obtain ⟨ob, hob⟩ : ∃ b, b = wr.heap.size := ⟨_, rfl⟩
      have hov : ∀ q, (Value.slice (some ⟨ob, 0, none⟩) 0 0).ownBlock = some q → q = ob := fun q hq => by simpa [Value.ownBlock] using hq.symm
      rw [← hob] at O4 ⊢
      clear hW4
      have cL := spec_LibNames_c w4
      have cH := fun (q : ByteArray) W (hW : Below wr.heap.size wr W) => l22Has_c l0 q _ _ W ((O.out.below hW).sl flatStr)
      obtain ⟨an, han⟩ : ∃ y, y = l0.length := ⟨_, rfl⟩
      rw [← han] at cH ⊢
      generalize (Value.slice (some ⟨ob, 0, none⟩) 0 0) = ov at *
      replace cL := Lib.hid cL; replace cH := Lib.hid cH; replace hob := Lib.hid hob; replace han := Lib.hid han; replace hfin := Lib.hid hfin
      go_upto_region 18 with (go_at_call 16; (with_reducible refine (cL.out).mono ?_); rintro e w5 ⟨lv, rfl, OL, hb5⟩; obtain ⟨g5, lcap, rfl, y1, y2, y3, y4, LR, y6⟩ := own_cells OL (by decide))
      have hz5 := hb5.size
      have hob' := hob.out
      have hgo : g5 ≠ ob := by omega
      have O5 : OwnF 9 1 strRow StrOk ob w5 ov [] := O4.below hb5
      have hb05 := hb4.trans (hb5.mono (by omega))
      replace O5 := Lib.hid O5; replace hov := Lib.hid hov; replace hb05 := Lib.hid hb05
      clear O4 OL y6 hb4 hb5 cL hob'
      obtain ⟨wA, rfl⟩ : ∃ W, W = wr := ⟨_, rfl⟩
      go_loopw [9, 48] (fun ov ii wq => ∃ k : Nat, k ≤ 13 ∧ ii = .int .i64 k ∧ Hid (OwnF 9 1 strRow StrOk ob wq ov ((libNames.take k).filter fun n => anyS l0 n)) ∧ Hid (∀ q, ov.ownBlock = some q → q = ob ∨ w5.heap.size ≤ q) ∧ Hid (Kept (· = ob) w5 wq) ∧ Hid (Below wA.heap.size wA wq) ∧ w5.heap.size ≤ wq.heap.size) (fun _ ii _ => 13 - (intOf ii).toNat)
      case atStart => exact ⟨0, by omega, rfl, by simpa using O5, Lib.hid (fun q hq => .inl (hov.out q hq)), Lib.hid (Kept.refl _ _), hb05, Nat.le_refl _⟩
      case round =>
        clear O5 hov hb05
        obtain ⟨k, hk, rfl, OO, hov, K, hwA, hsz5⟩ := hrel
        have hobw := hob.out
        have hszA := hwA.out.size
        by_cases hlt : k < 13
        · obtain ⟨n, hn1, hn2, hno2⟩ := libNames_get hlt
          have htk : libNames.take (k + 1) = libNames.take k ++ [n] := by rw [List.take_add_one, hn1]; rfl
          have hpn := filt_snoc l0 (libNames.take k) n
          rw [← htk] at hpn
          have e_0 : wr.cell? ⟨g5, 0 + k, none⟩ = some (.string n) := (LR.kept K.out hgo) k _ hn2
          rw [Nat.zero_add] at e_0
          have hbb1 := World.block_lt_of_cell? _ _ e_0; dsimp only at hbb1
          have cIn := fun W (hW : Below wr.heap.size wr W) => cH.out n W (hwA.out.trans (hW.mono hszA))
          have hkb : ((libNames.take k).filter fun n => anyS l0 n).length ≤ 13 := Nat.le_trans (List.length_filter_le _ _) (by rw [List.length_take]; omega)
          obtain ⟨q, hq⟩ : ∃ q, anyS l0 n = q := ⟨_, rfl⟩
          rw [hq] at cIn hpn
          generalize hl : ((libNames.take k).filter fun n => anyS l0 n) = l at *
          generalize hl2 : ((libNames.take (k + 1)).filter fun n => anyS l0 n) = l2 at *
          obtain ⟨xa, xc, rfl⟩ := OO.out.form
          obtain ⟨vn, hvn⟩ : ∃ y, y = l.length := ⟨_, rfl⟩
          have hown2 := OO.out.1
          have hOw := Lib.hid OO.out.2
          rw [← hvn] at hown2 hkb hov ⊢
          replace hl := Lib.hid hl; replace hl2 := Lib.hid hl2; replace hpn := Lib.hid hpn; replace htk := Lib.hid htk; replace hvn := Lib.hid hvn; replace hn1 := Lib.hid hn1; replace hn2 := Lib.hid hn2; replace cIn := Lib.hid cIn; replace hown2 := Lib.hid hown2; replace hq := Lib.hid hq
          cases q
          · go_wp2_with (go_at_call 40; (with_reducible refine (cIn.out _ (Below.refl _ _)).mono ?_); rintro e w1 ⟨rfl, hb⟩)
            go_roundw
            case rel =>
              refine ⟨k + 1, by omega, by go_num, Lib.hid ?_, hov, Lib.hid (K.out.trans hsz5 (Kept.below hb)), Lib.hid (hwA.out.trans (hb.mono hszA)), Nat.le_trans hsz5 hb.size⟩
              rw [hl2.out, hpn.out, if_neg (by simp), List.append_nil, hvn.out]
              exact OO.out.below hb
            case measure => simp [intOf]; omega
          · go_upto_region 21 with (go_at_call 40; (with_reducible refine (cIn.out _ (Below.refl _ _)).mono ?_); rintro e w1 ⟨rfl, hb⟩)
            have hwB := hwA.out.trans (hb.mono hszA)
            have hown6 := own_below hown2.out hb
            have hzB := hwB.size
            have hzb := hb.size
            have K1 := Lib.hid (K.out.trans hsz5 (Kept.below hb))
            replace hown6 := Lib.hid hown6
            clear hown2
            go_wp2_with (at_builtin; refine wpList_append_lies _ rfl _ _ _ rfl (ob) 9 iJ _ 1 16 Tryz.underlying27 IJ.out IJ0.out IJ1.out IJ2.out rfl (by omega) (.slice xa vn xc) (vn) (rowsOf strRow l) rfl (own_below hown6.out (by go_grown)) ⟨w1.heap.size, 0, none⟩ 1 1 [.string n] rfl rfl (World.news_of_block (cs := #[.string n]) (t := 9) (fr := (0, 0)) (heap_alloc_new' _ _ _ (by simp))) (by intro u hu; simp at hu; (first | (subst hu; rfl) | (rcases hu with rfl | rfl | rfl | rfl <;> rfl) | (rcases hu with rfl | rfl | rfl | rfl | rfl | rfl <;> rfl) | (rcases hu with rfl | rfl | rfl | rfl | rfl | rfl | rfl <;> rfl) | (rcases hu with rfl | rfl | rfl | rfl | rfl | rfl | rfl | rfl | rfl <;> rfl))) (by omega) (by unfold maxLen; omega) (by omega) (by simp; omega) _ rfl ?_; intro g2 cap2 w6 hownN hgrow hat hlt2)
            have hB6 : Below wA.heap.size wA w6 := below_grown2 (wr := w1) (base := wA.heap.size) hgrow (by go_grown) hwB hzB (by have h := hown6.out; rw [hobw] at h; exact h)
            have k6 := kept_of hgrow (w := w1) (by go_grown)
            have hz6 : w1.heap.size + 1 ≤ w6.heap.size := by have := hgrow.size; simpa using this
            go_roundw
            case rel =>
              refine ⟨k + 1, by omega, by go_num, Lib.hid ⟨?_, fun y hy => ?_⟩, Lib.hid (fun q hq => ?_), Lib.hid (fun q h1 h2 => (k6 q (by omega) (fun e => ?_)).trans (K1.out q h1 h2)), Lib.hid hB6, by omega⟩
              · rw [hl2.out, hpn.out, if_pos (by trivial), List.length_append, ← hvn.out, rowsOf_append, rowsOf_one]
                exact hownN
              · rw [hl2.out, hpn.out, if_pos (by trivial)] at hy
                rcases List.mem_append.1 hy with h | h
                · exact hOw.out y h
                · simp only [List.mem_singleton] at h; rw [h]; exact hno2
              · obtain rfl : g2 = q := by simpa [Value.ownBlock] using hq
                rcases hat with h | h
                · exact hov.out g2 h
                · simp at h; omega
              · rcases hov.out q e.symm with h | h
                · exact h2 h
                · omega
            case measure => simp [intOf]; omega
        · obtain rfl : k = 13 := by omega
          have O2 := OO.out
          rw [show libNames.take 13 = libNames from rfl] at O2
          replace O2 := Lib.hid O2
          go_wp2_with fail
          exact hpost.out _ _ l0 hfin.out (O2.out.mono (by omega)) (hw.out.trans (hwA.out.mono (by omega)))
    · have hag' := hag.out rfl
      cases gk with
      | zero => omega
      | succ g0 =>
        clear hag hsh
        have hszr := hw.out.size
        obtain ⟨va, vc, rfl⟩ := O.out.form
        have hob := O.out.base
        have P0 : Pass names l0 l0 false := ⟨fun n h => h, hS.out, fun h => (by cases h), fun _ => rfl, O.out.2, hM.out⟩
        obtain ⟨vn, hvn⟩ : ∃ x, x = l0.length := ⟨_, rfl⟩
        generalize hav : (Value.slice va l0.length vc) = av at *
        replace P0 := Lib.hid P0; replace hob := Lib.hid hob; replace hag' := Lib.hid hag'
        clear hav
        go_upto_region 6 with (go_at_call 38; (with_reducible refine (l22DefsF_c _).mono ?_); rintro e w5 ⟨b5, rfl, hb5a, hb5b, hD5, hb5⟩)
        have hz5 := hb5.size
        obtain ⟨L, hL⟩ : ∃ x, x = wr.heap.size := ⟨_, rfl⟩
        have hob2 : ∀ q, av.ownBlock = some q → q < L ∨ w5.heap.size ≤ q := fun q hq => .inl (by rw [hL]; exact (hob.out q hq).2)
        rw [← hL] at hb5a hD5 hz5
        have O5 := Lib.hid (O.out.below hb5)
        have hw5 := Lib.hid (hw.out.trans (hb5.mono hszr))
        replace hob2 := Lib.hid hob2; replace hD5 := Lib.hid hD5
        clear O hob hL hb5
        go_loopw [3, 4, 18] (fun av agv ii wr => ∃ (k : Nat) (l : List ByteArray) (ag : Bool), k ≤ 13 ∧ agv = .bool ag ∧ ii = .int .i64 k ∧ Hid (OwnF 9 1 strRow StrOk w.heap.size wr av l) ∧ Hid (∀ q, av.ownBlock = some q → q < L ∨ w5.heap.size ≤ q) ∧ Hid (Pass names l0 l ag) ∧ Hid (ag = false → Shut l0 k 0) ∧ Hid (Kept (fun q => q < L) w5 wr) ∧ Hid (Below w.heap.size w wr) ∧ w5.heap.size ≤ wr.heap.size) (fun _ _ ii _ => 13 - (intOf ii).toNat)
        case atStart => exact ⟨0, l0, false, by omega, rfl, rfl, O5, hob2, P0, Lib.hid fun _ => ⟨fun i d hi => by omega, fun d _ _ j u hj => by omega⟩, Lib.hid (Kept.refl _ _), hw5, Nat.le_refl _⟩
        case round =>
          clear O5 hob2 P0 hw5
          obtain ⟨k, l, ag, hk, rfl, rfl, O, hob, P, hsh, K, hw1, hs1⟩ := hrel
          by_cases hlt : k < 13
          · obtain ⟨d, hd⟩ : ∃ d, libDefs[k]? = some d := ⟨_, List.getElem?_eq_getElem (show k < libDefs.length from hlt)⟩
            have hdm := List.mem_of_getElem? hd
            obtain ⟨da, dc, hdr5, hds⟩ := hD5.out k d hd
            have hdr := hdr5.kept K.out (by omega)
            clear hdr5
            have hdok := libDefs_ok d hdm
            have hdlib := libs_lib _ (defs_lib hdm)
            have hduse := uses_eq d hdm
            have hdul := defs_uses_lib d hdm
            obtain ⟨nm, ar, bo, us, rc⟩ := d
            dsimp only at hdr hds hdok hdlib hduse hdul
            obtain ⟨un, hun⟩ : ∃ x, x = us.length := ⟨_, rfl⟩
            have hun13 : un ≤ 13 := by rw [hun, ← hduse]; exact usesT_len nm
            rw [← hun] at hdr hds
            obtain ⟨e_0, e_1, e_2, e_3, e_4⟩ : wr.cell? ⟨b5, k * 5, none⟩ = some (.string nm) ∧ wr.cell? ⟨b5, k * 5 + 1, none⟩ = some (.string ar) ∧ wr.cell? ⟨b5, k * 5 + 2, none⟩ = some (.string bo) ∧ wr.cell? ⟨b5, k * 5 + 3, none⟩ = some (.slice da un dc) ∧ wr.cell? ⟨b5, k * 5 + 4, none⟩ = some (.bool rc) := ⟨hdr 0 _ rfl, hdr 1 _ rfl, hdr 2 _ rfl, hdr 3 _ rfl, hdr 4 _ rfl⟩
            have hbb5 := World.block_lt_of_cell? _ _ e_0; dsimp only at hbb5
            obtain ⟨va, vc, rfl⟩ := O.out.form
            have hobr := O.out.base
            replace hds := Lib.hid hds; replace hd := Lib.hid hd; replace hdm := Lib.hid hdm; replace hdok := Lib.hid hdok; replace hdlib := Lib.hid hdlib; replace hduse := Lib.hid hduse; replace hdul := Lib.hid hdul; replace hun := Lib.hid hun; replace hobr := Lib.hid hobr
            clear hdr
            generalize hav : (Value.slice va l.length vc) = av at *
            clear hav
            go_upto_region 8 with fail
            obtain ⟨w6, hW6⟩ : ∃ W, W = wr.alloc (.cells #[.string nm, .string ar, .string bo, .slice da un dc, .bool rc] 79) := ⟨_, rfl⟩
            rw [← hW6]
            have hb6 : Below wr.heap.size wr w6 := by rw [hW6]; go_grown
            have D6 : RowAt w6 wr.heap.size 0 [.string nm, .string ar, .string bo, .slice da un dc, .bool rc] := by rw [hW6]; exact RowAt.box wr #[_, _, _, _, _] _
            have hz6 : w6.heap.size = wr.heap.size + 1 := by rw [hW6]; simp
            obtain ⟨db, hdb⟩ : ∃ x, x = wr.heap.size := ⟨_, rfl⟩
            rw [← hdb] at D6 hz6 ⊢
            have O6 := Lib.hid (O.out.below hb6)
            have K6 := Lib.hid (K.out.trans hs1 (Kept.below hb6))
            have hw6 := Lib.hid (hw1.out.trans (hb6.mono hw1.out.size))
            have hob6 : Hid (∀ q, av.ownBlock = some q → (q < L ∨ w5.heap.size ≤ q) ∧ q ≠ db) := Lib.hid fun q hq => ⟨hob.out q hq, by have := (hobr.out q hq).2; omega⟩
            have hLdb : L ≤ db := by omega
            have hdbw : w5.heap.size ≤ db := by omega
            replace hdb := Lib.hid hdb
            clear hW6 hb6 O K hw1 hob hobr e_0 e_1 e_2 e_3 e_4 hbb5
            have hLr : ∀ g, L ≤ g → ¬ (fun q => q < L) g := fun g h1 h2 => by have : g < L := h2; omega
            obtain ⟨D6a, D6b, D6c, D6d, D6e⟩ : w6.cell? ⟨db, 0, none⟩ = some (.string nm) ∧ w6.cell? ⟨db, 1, none⟩ = some (.string ar) ∧ w6.cell? ⟨db, 2, none⟩ = some (.string bo) ∧ w6.cell? ⟨db, 3, none⟩ = some (.slice da un dc) ∧ w6.cell? ⟨db, 4, none⟩ = some (.bool rc) := by
              have h0 := D6 0 _ rfl; have h1 := D6 1 _ rfl; have h2 := D6 2 _ rfl; have h3 := D6 3 _ rfl; have h4 := D6 4 _ rfl
              exact ⟨h0, h1, h2, h3, h4⟩
            have hdl6 := World.block_lt_of_cell? _ _ D6a; dsimp only at hdl6
            go_upto_region 9 with fail
            replace D6 := Lib.hid D6
            clear D6a D6b D6c D6d D6e
            go_loopw [3, 4, 25] (fun av agv ii wr => ∃ (m : Nat) (l : List ByteArray) (ag : Bool), m ≤ un ∧ agv = .bool ag ∧ ii = .int .i64 m ∧ Hid (OwnF 9 1 strRow StrOk w.heap.size wr av l) ∧ Hid (∀ q, av.ownBlock = some q → (q < L ∨ w5.heap.size ≤ q) ∧ q ≠ db) ∧ Hid (Pass names l0 l ag) ∧ Hid (ag = false → Shut l0 k m) ∧ Hid (Kept (fun q => q < L) w5 wr) ∧ Hid (Below w.heap.size w wr) ∧ w5.heap.size ≤ wr.heap.size ∧ Hid (RowAt wr db 0 [.string nm, .string ar, .string bo, .slice da un dc, .bool rc])) (fun _ _ ii _ => un - (intOf ii).toNat)
            case atStart => exact ⟨0, l, ag, by omega, rfl, rfl, O6, hob6, P, hsh, K6, hw6, by omega, D6⟩
            case round =>
              clear O6 hob6 P hsh K6 hw6 D6 hz6 hdl6 hs1
              obtain ⟨m, l, ag, hm, rfl, rfl, O, hob, P, hsh, K, hw1, hs1, D⟩ := hrel
              by_cases hmu : m < un
              · have hds0 := sl_lo_kept flatStr hds.out K.out
                obtain ⟨da', dc', hdv, dl1, dl2, hds1⟩ := hds0
                obtain ⟨rfl, rfl⟩ : da = da' ∧ dc = dc' := by injection hdv with e1 e2 e3; exact ⟨e1, e3⟩
                obtain ⟨b2, o2, x, r2, _, rfl, P2, ⟨rfl, hxo⟩, r2'⟩ := hds1.get (k := m) hun hmu
                have hx := P2.out
                have hxm := List.mem_of_getElem? hx
                have f_0 : wr.cell? ⟨b2, o2 + m, none⟩ = some (.string x) := by simpa using r2' 0 _ rfl
                have hbb2 := World.block_lt_of_cell? _ _ f_0; dsimp only at hbb2
                have d_0 : wr.cell? ⟨db, 0, none⟩ = some (.string nm) := by have := D.out 0 _ rfl; exact this
                have hbdb := World.block_lt_of_cell? _ _ d_0; dsimp only at hbdb
                obtain ⟨va, vc, rfl⟩ := O.out.form
                have cH := fun (q : ByteArray) W (hW : Below wr.heap.size wr W) => l22Has_c l q _ _ W ((O.out.below hW).sl flatStr)
                obtain ⟨vn, hvn⟩ : ∃ y, y = l.length := ⟨_, rfl⟩
                have hown2 := O.out.1
                rw [← hvn] at cH hown2 hob ⊢
                have hPb := P.out.bnd
                have hnl := hnn.out
                have hvnb : vn ≤ 1048589 := by omega
                obtain ⟨h1, hh1⟩ : ∃ q, anyS l nm = q := ⟨_, rfl⟩
                obtain ⟨h2, hh2⟩ : ∃ q, anyS l x = q := ⟨_, rfl⟩
                have cH1 := cH nm
                have cH2 := cH x
                rw [hh1] at cH1
                rw [hh2] at cH2
                have hsk : ¬ (h1 = true ∧ h2 = false) → (ag = false → Shut l0 k (m + 1)) := fun hq hf => (hsh.out hf).next hd.out hx (fun hnm => by
                  rw [← P.out.no hf] at hnm ⊢
                  have e1 : h1 = true := by rw [← hh1]; exact anyS_mem2.2 hnm
                  cases h2 with
                  | true => exact anyS_mem2.1 hh2
                  | false => exact absurd ⟨e1, rfl⟩ hq)
                have hadd : h1 = true → h2 = false → Pass names l0 (l ++ [x]) true := fun e1 e2 => P.out.add (anyS_mem2.1 (hh1.trans e1)) hdlib.out (by rw [hduse.out]; exact hxm) (hdul.out x hxm) hxo (anyS_no.1 (hh2.trans e2))
                clear hds1 P2 r2' hdv cH hPb hh1 hh2
                have hrel0 : ¬ (h1 = true ∧ h2 = false) → ∀ W, Below wr.heap.size wr W → ∃ (m' : Nat) (l' : List ByteArray) (ag' : Bool), m' ≤ un ∧ (Value.bool ag) = .bool ag' ∧ (Value.int .i64 ((m : Int) + 1)) = .int .i64 m' ∧ Hid (OwnF 9 1 strRow StrOk w.heap.size W (.slice va vn vc) l') ∧ Hid (∀ q, (Value.slice va vn vc).ownBlock = some q → (q < L ∨ w5.heap.size ≤ q) ∧ q ≠ db) ∧ Hid (Pass names l0 l' ag') ∧ Hid (ag' = false → Shut l0 k m') ∧ Hid (Kept (fun q => q < L) w5 W) ∧ Hid (Below w.heap.size w W) ∧ w5.heap.size ≤ W.heap.size ∧ Hid (RowAt W db 0 [.string nm, .string ar, .string bo, .slice (some ⟨b2, o2, none⟩) un dc, .bool rc]) := fun hq W hW =>
                  ⟨m + 1, l, ag, by omega, rfl, by go_num, Lib.hid (by rw [hvn]; exact O.out.below hW), hob, P, Lib.hid (hsk hq), Lib.hid (K.out.trans hs1 (Kept.below hW)), Lib.hid (hw1.out.trans (hW.mono hw1.out.size)), Nat.le_trans hs1 hW.size, Lib.hid (D.out.below hW)⟩
                replace hrel0 := Lib.hid hrel0; replace hadd := Lib.hid hadd; replace cH1 := Lib.hid cH1; replace cH2 := Lib.hid cH2; replace hvn := Lib.hid hvn; replace hown2 := Lib.hid hown2; replace hnl := Lib.hid hnl; replace hx := Lib.hid hx; replace hxm := Lib.hid hxm
                clear hsk
                cases h1
                · go_wp2_with (go_at_call 40; (with_reducible refine (cH1.out _ (Below.refl _ _)).mono ?_); rintro e w7 ⟨rfl, hb7⟩)
                  go_roundw
                  case rel => exact hrel0.out (by simp) _ hb7
                  case measure => simp [intOf]; omega
                cases h2
                rotate_left
                · go_wp2_with (go_at_call 40; first | ((with_reducible refine (cH1.out _ (Below.refl _ _)).mono ?_); rintro e w7 ⟨rfl, hb7⟩) | ((with_reducible refine (cH2.out _ hb7).mono ?_); rintro e w8 ⟨rfl, hb8⟩; have hb78 := hb7.trans (hb8.mono hb7.size)))
                  go_roundw
                  case rel => exact hrel0.out (by simp) _ hb78
                  case measure => simp [intOf]; omega
                go_upto_region 12 with (go_at_call 40; first | ((with_reducible refine (cH1.out _ (Below.refl _ _)).mono ?_); rintro e w7 ⟨rfl, hb7⟩) | ((with_reducible refine (cH2.out _ hb7).mono ?_); rintro e w8 ⟨rfl, hb8⟩; have hb78 := hb7.trans (hb8.mono hb7.size)))
                have hP2 := hadd.out (by first | rfl | trivial) (by first | rfl | trivial)
                have hwr8 := hw1.out.trans (hb78.mono hw1.out.size)
                have hown8 := own_below hown2.out hb78
                have hz8 := hb78.size
                have hzw := hwr8.size
                have D8 := D.out.below hb78
                have K8 := K.out.trans hs1 (Kept.below hb78)
                replace hP2 := Lib.hid hP2; replace hwr8 := Lib.hid hwr8; replace hown8 := Lib.hid hown8; replace D8 := Lib.hid D8; replace K8 := Lib.hid K8
                clear hrel0 hadd cH1 cH2 hb7 hb8 hb78 hown2
                go_wp2_with (at_builtin; refine wpList_append_lies _ rfl _ _ _ rfl (w.heap.size) 9 iJ _ 1 16 Tryz.underlying27 IJ.out IJ0.out IJ1.out IJ2.out rfl (by omega) (.slice va vn vc) (vn) (rowsOf strRow l) rfl (own_below hown8.out (by go_grown)) ⟨w8.heap.size, 0, none⟩ 1 1 [.string x] rfl rfl (World.news_of_block (cs := #[.string x]) (t := 9) (fr := (0, 0)) (heap_alloc_new' _ _ _ (by simp))) (by intro u hu; simp at hu; (first | (subst hu; rfl) | (rcases hu with rfl | rfl | rfl | rfl <;> rfl) | (rcases hu with rfl | rfl | rfl | rfl | rfl | rfl <;> rfl) | (rcases hu with rfl | rfl | rfl | rfl | rfl | rfl | rfl <;> rfl) | (rcases hu with rfl | rfl | rfl | rfl | rfl | rfl | rfl | rfl | rfl <;> rfl))) (by omega) (by unfold maxLen; omega) (by omega) (by simp; omega) _ rfl ?_; intro g2 cap2 w9 hownN hgrow hat hlt2)
                have hB9 := below_grown2 (wr := w8) (base := w.heap.size) hgrow (by go_grown) hwr8.out hzw hown8.out
                have k9 := kept_of hgrow (w := w8) (by go_grown)
                have hz9 : w8.heap.size + 1 ≤ w9.heap.size := by have := hgrow.size; simpa using this
                have hatq : (Value.slice va vn vc).ownBlock = some g2 ∨ w8.heap.size ≤ g2 := by rcases hat with h | h; exact .inl h; exact .inr (by simp at h; omega)
                have kL : ∀ q, q < w8.heap.size → (q < w5.heap.size ∧ L ≤ q) ∨ q = db → ¬ some q = (Value.slice va vn vc).ownBlock := fun q h1 h2 e => by
                  have := hob.out q e.symm
                  rcases h2 with h2 | h2
                  · rcases this.1 with h | h <;> omega
                  · exact this.2 h2
                go_roundw
                case rel =>
                  refine ⟨m + 1, l ++ [x], true, by omega, rfl, by go_num, Lib.hid ⟨?_, hP2.out.ok⟩, Lib.hid (fun q hq => ?_), hP2, Lib.hid (fun h => by cases h), Lib.hid (fun q h1 h2 => ?_), Lib.hid hB9, by omega, Lib.hid (D8.out.kept k9 (kL db (by omega) (.inr rfl)))⟩
                  · rw [List.length_append, ← hvn.out, rowsOf_append, rowsOf_one]
                    exact hownN
                  · obtain rfl : g2 = q := by simpa [Value.ownBlock] using hq
                    rcases hatq with h | h
                    · exact hob.out g2 h
                    · exact ⟨.inr (by omega), by omega⟩
                  · have h2' : L ≤ q := by
                      rcases Nat.lt_or_ge q L with h | h
                      · exact absurd h h2
                      · exact h
                    exact (k9 q (by omega) (kL q (by omega) (.inl ⟨h1, h2'⟩))).trans (K8.out q h1 h2)
                case measure => simp [intOf]; omega
              · obtain rfl : m = un := by omega
                have hsh2 : ag = false → Shut l0 (k + 1) 0 := fun h => Shut.up hd.out (by have := hsh.out h; rw [hun.out] at this; exact this)
                replace hsh2 := Lib.hid hsh2
                go_wp2_with fail
                go_roundw
                case rel => exact ⟨k + 1, l, ag, by omega, rfl, by go_num, O, Lib.hid (fun q hq => (hob.out q hq).1), P, hsh2, K, hw1, hs1⟩
                case measure => simp [intOf]; omega
          · obtain rfl : k = 13 := by omega
            go_wp2_with fail
            go_roundg g0
            case rel => exact ⟨ag, l, rfl, O, Lib.hid (fun n h => P.out.sup n (hN.out n h)), Lib.hid P.out.sound, Lib.hid P.out.bnd, Lib.hid (fun h => by have := P.out.yes h; have := hag'.out; omega), Lib.hid (fun h => by rw [P.out.no h]; exact hsh.out h), hw1⟩
            case measure => omega
open Classical in
/-- The names that are needed, in the library's order. -/
noncomputable def needL (names : List ByteArray) : List ByteArray := libNames.filter fun n => decide (Rch names n)
theorem filter_of_mem {α : Type} {p q : α → Bool} : ∀ (l : List α), (∀ x ∈ l, p x = q x) → l.filter p = l.filter q
  | [], _ => rfl
  | a :: l, h => by
    rw [List.filter_cons, List.filter_cons, h a (by simp), filter_of_mem l fun x hx => h x (by simp [hx])]
open Classical in
theorem needL_impl {names met : List ByteArray} (h : NdInv names [] met) : (libNames.filter fun n => anyS met n) = needL names :=
  filter_of_mem _ fun n hn => by
    have h1 := h.done (libs_lib n hn)
    rw [Bool.eq_iff_iff, anyS_mem, decide_eq_true_iff]
    exact h1
open Classical in
theorem needL_spec {names all : List ByteArray} (h : ∀ n, n ∈ all ↔ Rch names n) : (libNames.filter fun n => anyS all n) = needL names :=
  filter_of_mem _ fun n hn => by
    rw [Bool.eq_iff_iff, anyS_mem, decide_eq_true_iff]
    exact h n
theorem needL_len (names : List ByteArray) : (needL names).length ≤ 13 := List.length_filter_le _ _
def StrPost (y : List ByteArray) (w : World) (e : Ending) (w' : World) : Prop := ∃ v, e = .returned v ∧ OwnF 9 1 strRow StrOk w.heap.size w' v y ∧ Below w.heap.size w w'
theorem implNeeds_y (names : List ByteArray) (hlen : names.length ≤ 1048576) (u : Value) (lo : Nat) (w : World) (hu : Sl StrR 1 lo w u names) : Calls Tryz.prog 22 #[u] w (StrPost (needL names) w) :=
  (LibNeeds_c names hlen u lo w hu).mono fun e w' ⟨v, met, he, hI, hO, hb⟩ => ⟨v, he, by rw [← needL_impl hI]; exact hO, hb⟩
theorem specNeeds_y (names : List ByteArray) (hlen : names.length ≤ 1048576) (u : Value) (lo : Nat) (w : World) (hu : Sl StrR 1 lo w u names) : Calls Tryz.prog 18 #[u] w (StrPost (needL names) w) :=
  (specNeeds_c names hlen u lo w hu).mono fun e w' ⟨v, all, he, hI, hO, hb⟩ => ⟨v, he, by rw [← needL_spec hI]; exact hO, hb⟩
theorem eqS_own {w : World} {lo lo' : Nat} {u v : Value} {y : List ByteArray} (h : OwnF 9 1 strRow StrOk lo w u y) (h' : OwnF 9 1 strRow StrOk lo' w v y) :
    Calls Tryz.prog 8 #[u, v] w fun e w' => e = .returned (.bool true) ∧ Below w.heap.size w w' :=
  (eqStringS_c y y u v lo lo' w (h.sl flatStr) (h'.sl flatStr)).mono fun e w' ⟨he, hb⟩ => ⟨by rw [he, decide_eq_true rfl], hb⟩

end Go.Proofs.YtaimekaagmcmnaaGreat
