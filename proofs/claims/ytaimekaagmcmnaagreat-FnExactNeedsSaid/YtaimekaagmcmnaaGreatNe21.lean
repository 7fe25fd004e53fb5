/- Parts of the proof, merged: Pr14. -/
import Derived.Deep.LoopGhost
import Derived.Test.YtaimekaagmcmnaaGreatNe20
/- The program's parser: match. -/
namespace Go.Proofs.YtaimekaagmcmnaaGreat
open Go.RowKit
set_option linter.unusedVariables false
set_option linter.unusedSimpArgs false
attribute [local go_sem] Ext.cell

theorem info_PatP : (Tryz.prog.info? 83).map (fun i => (i.zero, i.size, i.bytes)) = some (some (.agg #[.slice none 0 0]), 1, 24) := by kernel_rfl
theorem info_exP : (Tryz.prog.info? 127).map (fun i => (i.zero, i.size, i.bytes)) = some (some (.pointer none), 1, 8) := by kernel_rfl
section
variable (L : List GTok) (E : Nat)
def armsG (R : PFs) (deep : Nat) : Nat → MOut → Option MOut
  | 0, _ => none
  | g + 1, m => (R.pat 0 (if m.pats.length = 0 then m.i else m.i + 1) []).bind fun q => if 600 < szP q.t then none else (eatP L E q.i qArrow).bind fun j => (R.expr (deep + 1) j q.ns).bind fun b =>
      if eqS (sgn (tokAt L E b.i)) qBar then armsG R deep g ⟨m.kids ++ [b.t], m.pats ++ [layPx q.t], b.i, b.ns⟩ else some ⟨m.kids ++ [b.t], m.pats ++ [layPx q.t], b.i, b.ns⟩
def mtchG (R : PFs) (deep : Nat) (at_ : Int) (i : Nat) (ns : List ByteArray) : Option (POut ExT) :=
  (R.expr (deep + 1) i ns).bind fun a => (eatP L E a.i qWith).bind fun j => (armsG L E R deep 100 ⟨[a.t], [], j, a.ns⟩).bind fun m => (eatP L E m.i qEnd).map fun k => ⟨.mk 13 at_ 0 (bs []) m.kids m.pats, k, m.ns⟩
end
theorem step_names {C : PC} {b i : Nat} {W : World} {nv : Value} {ns : List ByteArray} (P : PS C b W i nv ns) :
    PS C b (W.setCell ⟨b, 6, none⟩ (.slice none 0 0)) i (.slice none 0 0) [] ∧ PF b W nv (W.setCell ⟨b, 6, none⟩ (.slice none 0 0)) (.slice none 0 0) := by
  refine ⟨⟨P.ok.to ((Below.refl b W).setCell (p := ⟨b, 6, none⟩) (Nat.le_refl _) _), P.row.putAt (j := 6) (by simp) _, P.wr.set 6 _, OwnF.empty, P.ile, Nat.zero_le _⟩, ?_⟩
  have h := (PF.refl b W nv).set 6 (.slice none 0 0)
  exact ⟨h.below, h.kept, fun q hq => by simp [Value.ownBlock] at hq⟩

set_option maxRecDepth 100000 in
set_option maxHeartbeats 16000000 in
theorem mtch_g {C : PC} {b : Nat} {R : PFs} (G : Good C b R) : ∀ deep (a : Int) i ns o w nv, I64 a → mtchG C.L C.E R deep a i ns = some o → PS C b w i nv ns → Calls Tryz.prog 144 #[.pointer (some ⟨b, 0, none⟩), .int .i64 (deep : Int), .int .i64 a] w (EPost C b w nv o) := by
  intro deep a i ns o w nv ha h P
  unfold mtchG at h
  generalize hQ : EPost C b w nv o = Q
  have hpost := epost_out hQ
  clear hQ
  obtain ⟨oa, hoa, h⟩ := Option.bind_eq_some_iff.1 h
  obtain ⟨j1, hj1, h⟩ := Option.bind_eq_some_iff.1 h
  obtain ⟨mo, hmo, h⟩ := Option.bind_eq_some_iff.1 h
  obtain ⟨k1, hk1, ho⟩ := Option.map_eq_some_iff.1 h
  subst ho
  clear h
  have hdeep := G.elim _ _ _ _ hoa
  have hlen := P.ok.len
  have hbl := P.lt
  have cX : Calls Tryz.prog 116 #[.pointer (some ⟨b, 0, none⟩), .int .i64 ((deep : Int) + 1)] w (EPost C b w nv oa) := by have h := G.expr (deep + 1) i ns oa w nv hoa P; rw [show ((deep + 1 : Nat) : Int) = (deep : Int) + 1 by omega] at h; exact h
  have cE1 := fun (W : World) nv' (hP : PS C b W oa.i nv' oa.ns) => eat_c hP ⟨#[119, 105, 116, 104]⟩ (by decide) hj1
  have cE9 := fun (W : World) nv' (hP : PS C b W mo.i nv' mo.ns) => eat_c hP ⟨#[101, 110, 100]⟩ (by decide) hk1
  dsimp only at hpost
  have e1 : ((deep + 1 : Nat) : Int) = (deep : Int) + 1 := by omega
  replace cX := Lib.hid cX; replace cE1 := Lib.hid cE1; replace cE9 := Lib.hid cE9; replace hpost := Lib.hid hpost; replace hoa := Lib.hid hoa; replace hj1 := Lib.hid hj1; replace hmo := Lib.hid hmo; replace hk1 := Lib.hid hk1; replace e1 := Lib.hid e1
  go_enter Tryz.func144, Tryz.ntmps144
  go_upto_region 2 with (go_at_call 116; (with_reducible refine (cX.out).mono ?_); rintro e w1 ⟨q1, nv1, rfl, P1, F1, T1⟩)
  obtain ⟨w2, hW2⟩ : ∃ W, W = (w1.alloc (.cells #[.pointer (some ⟨q1, 0, none⟩)] 127)).alloc (.cells #[.int .i64 13, .int .i64 a, .int .i64 0, .string ⟨#[]⟩, .slice (some ⟨w1.heap.size, 0, none⟩) 1 1, .slice none 0 0] 167) := ⟨_, rfl⟩
  rw [← hW2]
  obtain ⟨P2, F2, M2⟩ := MB.start P1 F1 T1 hW2
  obtain ⟨q, hq⟩ : ∃ x, x = w1.heap.size + 1 := ⟨_, rfl⟩
  rw [← hq] at M2 ⊢
  generalize (Value.slice (some ⟨w1.heap.size, 0, none⟩) 1 1) = kv0 at M2
  clear hW2 hq P1 F1 T1 cX
  go_upto_region 3 with (go_at_call 137; (with_reducible refine (cE1.out _ _ P2).mono ?_); rintro e w3 ⟨rfl, P3, F3⟩)
  have FF3 := F2.trans F3
  have M3 := M2.step F3 hbl
  clear P2 F2 M2 F3 cE1
  go_wp2_with fail
  go_loopg [8] 100 (fun gk c wr => ∃ (cb : Bool) (m : MOut) (nv' kv pv : Value) (vs : List Value) (pss : List (List Nat)), c = .bool cb ∧
      Hid (if cb = true then armsG C.L C.E R deep gk m = some mo else m = mo) ∧ Hid (m.kids.length = m.pats.length + 1) ∧ Hid (m.pats.length + gk ≤ 100) ∧ Hid (cb = true → 0 < m.pats.length → m.i < C.L.length) ∧
      PS C b wr m.i nv' m.ns ∧ PF b w nv wr nv' ∧ MB w.heap.size q a nv' wr kv pv vs pss m.kids m.pats)
  case atStart => exact ⟨true, ⟨[oa.t], [], j1, oa.ns⟩, nv1, kv0, _, _, _, rfl, hmo, Lib.hid rfl, Lib.hid (by simp), Lib.hid (by simp), P3, FF3, M3⟩
  case round =>
    clear P3 FF3 M3
    obtain ⟨cb, m, nv2, kv, pv, vs, pss, rfl, hm, hkl, hgb, hmi, P, F, M⟩ := hrel
    cases cb
    · obtain rfl : m = mo := by have h := hm.out; rwa [if_neg (by simp)] at h
      clear hm hmi
      go_wp2_with (go_at_call 137; (with_reducible refine (cE9.out _ _ P).mono ?_); rintro e w4 ⟨rfl, P4, F4⟩)
      have M4 := M.step F4 hbl
      exact hpost.out q nv2 _ ⟨P4, F.trans F4, M4.done ha (by have := hgb.out; omega) (by have := hkl.out; omega)⟩
    · have hm' := hm.out
      rw [if_pos rfl] at hm'
      clear hm
      obtain ⟨kids, pats, im, nsm⟩ := m
      dsimp only at hkl hgb hmi P M
      cases gk with
      | zero => rw [armsG] at hm'; cases hm'
      | succ g =>
        rw [armsG] at hm'
        dsimp only at hm'
        obtain ⟨oq, hoq, hm'⟩ := Option.bind_eq_some_iff.1 hm'
        split at hm'
        · cases hm'
        rename_i hsz
        obtain ⟨j2, hj2, hm'⟩ := Option.bind_eq_some_iff.1 hm'
        obtain ⟨ob, hob, hm'⟩ := Option.bind_eq_some_iff.1 hm'
        obtain ⟨n, hn⟩ : ∃ n, n = pats.length := ⟨_, rfl⟩
        obtain ⟨va, vc, hpv⟩ := M.pown.form
        rw [← hn] at hpv hoq
        subst hpv
        have hmi' := hmi.out rfl
        rw [← hn] at hmi'
        have hgb' := hgb.out
        have hkl' := hkl.out
        rw [← hn] at hgb' hkl'
        clear hmi hgb hkl
        have hlt := M.lt
        obtain ⟨m_0, m_1, m_2, m_3, m_4, m_5⟩ := M.row.box6
        replace hm' := Lib.hid hm'; replace hob := Lib.hid hob; replace hj2 := Lib.hid hj2; replace hoq := Lib.hid hoq; replace hsz := Lib.hid hsz; replace hn := Lib.hid hn; replace hkl' := Lib.hid hkl'
        obtain ⟨p_0, p_1, p_2, p_3, p_4, p_5, p_6⟩ := P.row.box7p
        have pf_1 := P.wr.frz 1 (by omega)
        have pf_6 := P.wr.frz 6 (by omega)
        have hblr := P.lt
        have hstep : ∃ (W : World) (i2 : Nat), Hid (R.pat 0 i2 [] = some oq) ∧ PS C b W i2 (.slice none 0 0) [] ∧ PF b w nv W (.slice none 0 0) ∧ MB w.heap.size q a (.slice none 0 0) W kv (.slice va n vc) vs pss kids pats ∧
            W = if n = 0 then wr.setCell ⟨b, 6, none⟩ (.slice none 0 0) else (wr.setCell ⟨b, 1, none⟩ (.int .i64 ((im : Int) + 1))).setCell ⟨b, 6, none⟩ (.slice none 0 0) := by
          by_cases h0 : n = 0
          · obtain ⟨P4, F4⟩ := step_names P
            have h := hoq.out
            rw [if_pos h0] at h
            exact ⟨_, im, Lib.hid h, P4, F.trans F4, M.step F4 hbl, by rw [if_pos h0]⟩
          · obtain ⟨P4, F4⟩ := step_at P (hmi' (by omega))
            obtain ⟨P5, F5⟩ := step_names P4
            have h := hoq.out
            rw [if_neg h0] at h
            exact ⟨_, im + 1, Lib.hid h, P5, (F.trans F4).trans F5, (M.step F4 hbl).step F5 hbl, by rw [if_neg h0]⟩
        obtain ⟨w4, i2, hoq2, P4, F4, M4, hw4⟩ := hstep
        replace hw4 := Lib.hid hw4
        by_cases h0 : n = 0
        case' pos =>
          have d1 : decide ((0 : Int) < (n : Int)) = false := decide_eq_false (by omega)
          have d2 : decide (0 < n) = false := decide_eq_false (by omega)
          have hw : w4 = wr.setCell ⟨b, 6, none⟩ (.slice none 0 0) := by rw [hw4.out, if_pos h0]
          replace hw := Lib.hid hw
          go_upto_region 9 with fail
          rw [← hw.out]
          clear hw d1 d2
        case' neg =>
          have d1 : decide ((0 : Int) < (n : Int)) = true := decide_eq_true (by omega)
          have d2 : decide (0 < n) = true := decide_eq_true (by omega)
          have hw : w4 = (wr.setCell ⟨b, 1, none⟩ (.int .i64 ((im : Int) + 1))).setCell ⟨b, 6, none⟩ (.slice none 0 0) := by rw [hw4.out, if_neg (by omega)]
          replace hw := Lib.hid hw
          go_upto_region 9 with fail
          rw [← hw.out]
          clear hw d1 d2
        all_goals
          clear hw4 m_0 m_1 m_2 m_3 m_4 m_5 p_0 p_1 p_2 p_3 p_4 p_5 p_6 pf_1 pf_6 hblr hlt hoq hmi' h0 P F M
          have cP : Calls Tryz.prog 164 #[.pointer (some ⟨b, 0, none⟩), .int .i64 0] w4 (PPost C b w4 (.slice none 0 0) oq) := G.pat 0 i2 [] oq w4 _ hoq2.out P4
          replace cP := Lib.hid cP
          go_upto_region 10 with (go_at_call 164; (with_reducible refine (cP.out).mono ?_); rintro e w5 ⟨q5, nv5, rfl, P5, F5, T5⟩)
          have cF := flatPat_nil T5 (by have := hsz.out; omega)
          have M5 := M4.step F5 hbl
          have FF5 := F4.trans F5
          replace cF := Lib.hid cF
          clear cP P4 F4 M4 F5 T5
          go_upto_region 11 with (go_at_call 165; (with_reducible refine (cF.out).mono ?_); rintro e w6 ⟨v6, bs6, rfl, S6, hbs6, hb6⟩; obtain ⟨a6, c6, hv6⟩ := S6.form; subst hv6)
          have hbl5 := P5.lt
          have P6 := P5.below hb6
          have F6 := FF5.near hb6 (by omega)
          have FB := PF.of nv5 hb6 (Nat.le_of_lt hbl5)
          have M6 := M5.step FB hbl
          have hO6 : GPat.O bs6 w6 [.slice a6 (layPx oq.t).nodes.length c6] (layPx oq.t) := ⟨_, rfl, trivial, S6⟩
          have hbs : ∀ g ∈ bs6, w.heap.size ≤ g ∧ nv5.ownBlock ≠ some g ∧ g ≠ q ∧ kv.ownBlock ≠ some g ∧ (Value.slice va n vc).ownBlock ≠ some g := fun g hg => by
            have h5 := hbs6 g hg
            have h1 := FF5.size
            have h2 := M5.lt
            refine ⟨by omega, P5.fresh h5, by omega, fun e => ?_, fun e => ?_⟩
            · have := (own_base M5.kown g e).2; omega
            · have := M5.pown.lt GPat.ok g (mem_fpO.2 (.inl e)); omega
          generalize (layPx oq.t).nodes.length = n6 at *
          obtain ⟨rows, hown0, hrows⟩ := M6.pown
          rw [← hn.out] at hown0
          have hex : ∀ (w1 w2 : World) g cap, Below w6.heap.size w6 w1 → w1.grownBy w2 (Value.slice va n vc).ownBlock → w2.ownsRow w.heap.size 83 1 (.slice (some ⟨g, 0, none⟩) (n + 1) cap) (n + 1) (rows.flatten ++ [.slice a6 n6 c6]) → ((Value.slice va n vc).ownBlock = some g ∨ g = w1.heap.size) →
              PS C b (w2.setCell ⟨q, 5, none⟩ (.slice (some ⟨g, 0, none⟩) (n + 1) cap)) oq.i nv5 oq.ns ∧ PF b w nv (w2.setCell ⟨q, 5, none⟩ (.slice (some ⟨g, 0, none⟩) (n + 1) cap)) nv5 ∧ MB w.heap.size q a nv5 (w2.setCell ⟨q, 5, none⟩ (.slice (some ⟨g, 0, none⟩) (n + 1) cap)) kv (.slice (some ⟨g, 0, none⟩) (n + 1) cap) vs (pss ++ [bs6]) kids (pats ++ [layPx oq.t]) :=
            fun w1 w2 g cap hB h1 h2 h3 => M6.addPat hn.out hrows P6 F6 hbl hO6 hbs (layPx_small (by have := hsz.out; omega)) hB h1 h2 h3 rfl rfl
          have hlt6 := M6.lt
          have hqw := M6.hq
          have hne2 : ∀ g, (Value.slice va n vc).ownBlock = some g → g ≠ q := fun g hg e => M6.pq (mem_fpO.2 (.inl (e ▸ hg)))
          have hlo6 := F6.size
          obtain ⟨m_0, m_1, m_2, m_3, m_4, m_5⟩ := M6.row.box6
          have mf_5 := M6.wr.frz 5 (by omega)
          have hr6 := M6.row
          have hw6 := M6.wr
          replace hex := Lib.hid hex; replace hown0 := Lib.hid hown0; replace hne2 := Lib.hid hne2
          clear hO6 hbs hrows S6 hbs6 hb6 P5 FF5 M5 FB cF P6 F6 M6
          obtain ⟨iD, hi0, hz0, hz1, hz2⟩ := info_parts info_PatP; have ID := Lib.hid hi0; have ID0 := Lib.hid hz0; have ID1 := Lib.hid hz1; have ID2 := Lib.hid hz2; clear hi0 hz0 hz1 hz2
          go_upto_region 12 with ((at_builtin; refine wpList_append_lies _ rfl _ _ _ rfl (w.heap.size) 83 iD _ 1 24 Tryz.underlying72 ID.out ID0.out ID1.out ID2.out rfl (by omega) (.slice va n vc) (n) (rows.flatten) rfl (own_below hown0.out (by go_grown)) ⟨w6.heap.size, 0, none⟩ 1 1 [.slice a6 n6 c6] rfl rfl (World.news_of_block (cs := #[.slice a6 n6 c6]) (t := 83) (fr := (0, 0)) (heap_alloc_new' _ _ _ (by simp))) (by intro u hu; simp at hu; (first | (subst hu; rfl) | (rcases hu with rfl | rfl | rfl | rfl <;> rfl) | (rcases hu with rfl | rfl | rfl | rfl | rfl | rfl <;> rfl) | (rcases hu with rfl | rfl | rfl | rfl | rfl | rfl | rfl <;> rfl) | (rcases hu with rfl | rfl | rfl | rfl | rfl | rfl | rfl | rfl | rfl <;> rfl))) (by omega) (by unfold maxLen; omega) (by omega) (by simp; omega) _ rfl ?_; intro g2 cap2 w7 hown hgrow hat hlt2); have hx := hex.out _ _ _ _ (by go_grown) hgrow hown hat; have k7 := kept_of hgrow (w := w6) (by go_grown); obtain ⟨u_0, u_1, u_2, u_3, u_4, u_5⟩ := (hr6.kept k7 (fun e => hne2.out _ e.symm rfl)).box6; have uf_5 := (hw6.kept k7 (fun e => hne2.out _ e.symm rfl)).frz 5 (by omega); have ubl := World.block_lt_of_cell? _ _ u_0; dsimp only at ubl)
          obtain ⟨P8, F8, M8⟩ := hx
          clear hown hgrow hat hlt2 k7 u_0 u_1 u_2 u_3 u_4 u_5 uf_5 ubl m_0 m_1 m_2 m_3 m_4 m_5 mf_5 hr6 hw6 hex hown0 hne2 hlt6 hlo6 hbl5
          generalize w7.setCell ⟨q, 5, none⟩ (.slice (some ⟨g2, 0, none⟩) (n + 1) cap2) = w8 at *
          have cE2 := eat_c P8 ⟨#[45, 62]⟩ (by decide) hj2.out
          replace cE2 := Lib.hid cE2
          go_upto_region 13 with (go_at_call 137; (with_reducible refine (cE2.out).mono ?_); rintro e w9 ⟨rfl, P9, F9⟩)
          have M9 := M8.step F9 hbl
          have FF9 := F8.trans F9
          clear P8 F8 M8 F9 cE2
          obtain ⟨kn, hkn⟩ : ∃ x, x = kids.length := ⟨_, rfl⟩
          have hknb : kn ≤ 101 := by have := hkl'.out; omega
          obtain ⟨ka, kc, hkv⟩ := own_form M9.kown
          rw [← hkn] at hkv
          subst hkv
          have hd9 : Below w9.heap.size w9 w9.drew := (Below.refl _ _).drew
          have hbl9 := P9.lt
          have hz9 := FF9.size
          have hlt9 := M9.lt
          have FD := PF.of nv5 hd9 (Nat.le_of_lt hbl9)
          have MD := M9.step FD hbl
          have P9d := P9.below hd9
          have cZ : Calls Tryz.prog 116 #[.pointer (some ⟨b, 0, none⟩), .int .i64 ((deep : Int) + 1)] w9.drew (EPost C b w9.drew nv5 ob) := by have h := G.expr (deep + 1) j2 oq.ns ob w9.drew nv5 hob.out P9d; rw [e1.out] at h; exact h
          replace cZ := Lib.hid cZ; replace hkn := Lib.hid hkn
          have FFd := FF9.near hd9 (by omega)
          have hall : ∀ (w10 : World) (q10 : Nat) (nv10 : Value), PF b w9.drew nv5 w10 nv10 → TR w9.drew.heap.size nv10 w10 (.pointer (some ⟨q10, 0, none⟩)) ob.t → PS C b w10 ob.i nv10 ob.ns →
              MB w.heap.size q a nv10 w10 (.slice ka kn kc) (.slice (some ⟨g2, 0, none⟩) (n + 1) cap2) vs (pss ++ [bs6]) kids (pats ++ [layPx oq.t]) ∧ PF b w nv w10 nv10 ∧
              (∀ (w1 w2 : World) g cap, Below w10.heap.size w10 w1 → w1.grownBy w2 (Value.slice ka kn kc).ownBlock → w2.ownsRow w.heap.size 127 1 (.slice (some ⟨g, 0, none⟩) (kn + 1) cap) (kn + 1) (vs ++ [.pointer (some ⟨q10, 0, none⟩)]) → ((Value.slice ka kn kc).ownBlock = some g ∨ g = w1.heap.size) →
                PS C b (w2.setCell ⟨q, 4, none⟩ (.slice (some ⟨g, 0, none⟩) (kn + 1) cap)) ob.i nv10 ob.ns ∧ PF b w nv (w2.setCell ⟨q, 4, none⟩ (.slice (some ⟨g, 0, none⟩) (kn + 1) cap)) nv10 ∧ MB w.heap.size q a nv10 (w2.setCell ⟨q, 4, none⟩ (.slice (some ⟨g, 0, none⟩) (kn + 1) cap)) (.slice (some ⟨g, 0, none⟩) (kn + 1) cap) (.slice (some ⟨g2, 0, none⟩) (n + 1) cap2) (vs ++ [.pointer (some ⟨q10, 0, none⟩)]) (pss ++ [bs6]) (kids ++ [ob.t]) (pats ++ [layPx oq.t])) := fun w10 q10 nv10 F10 T10 P10 => by
            have M10 := MD.step F10 hbl
            refine ⟨M10, FFd.trans F10, fun w1 w2 g cap hB h1 h2 h3 => M10.addKid hkn.out P10 (FFd.trans F10) hbl ?_ hB h1 h2 h3 rfl rfl⟩
            obtain ⟨F', hF'⟩ := T10
            refine ⟨F', hF'.to (Same.below (Below.refl _ _)) fun g h1 _ => ?_⟩
            have h10 := h1.1
            have hzd := hd9.size
            refine ⟨by omega, h1.2, by omega, fun e => ?_, fun e => ?_⟩
            · have := (own_base M9.kown g e).2; omega
            · have := M9.pown.lt GPat.ok g (mem_fpO.2 (.inl e)); omega
          obtain ⟨m_0, m_1, m_2, m_3, m_4, m_5⟩ := M9.row.box6
          replace hall := Lib.hid hall
          have hzd := hd9.size
          clear hd9 FD MD P9d FFd P9 FF9 M9
          obtain ⟨iX, hi0, hz0, hz1, hz2⟩ := info_parts info_exP; have IX := Lib.hid hi0; have IX0 := Lib.hid hz0; have IX1 := Lib.hid hz1; have IX2 := Lib.hid hz2; clear hi0 hz0 hz1 hz2
          have hwr : IntKind.i64.wrap ((deep : Int) + 1) = (deep : Int) + 1 := IntWalk.i64_in _ (by omega)
          go_region_law
            (first
              | (go_simp; go_at_call 116; (with_reducible refine (cZ.out).mono ?_); rintro e w10 ⟨q10, nv10, rfl, P10, F10, T10⟩; obtain ⟨M10, FF10, hex⟩ := hall.out w10 q10 nv10 F10 T10 P10; have hown10 := M10.kown; rw [← hkn.out] at hown10; have hr10 := M10.row; have hw10 := M10.wr; obtain ⟨r_0, r_1, r_2, r_3, r_4, r_5⟩ := hr10.box6; have hlt10 := M10.lt; have hne3 : ∀ g, (Value.slice ka kn kc).ownBlock = some g → g ≠ q := (fun g hg e => M10.kq (e ▸ hg)); have hbl10 := P10.lt; have hz10 := FF10.size; have hhx := Lib.hid hex; have hho := Lib.hid hown10; have hhn := Lib.hid hne3; clear hex hown10 hne3 P10 F10 T10 M10 FF10)
              | ((refine step_append_lies _ (by rfl) _ _ _ (by rfl) (w.heap.size) 127 iX _ 1 8 Tryz.underlying165 IX.out IX0.out IX1.out IX2.out rfl (by omega) _ (kn) (vs) (by rfl) (own_below hho.out (by go_grown)) ⟨w10.heap.size, 0, none⟩ 1 1 [.pointer (some ⟨q10, 0, none⟩)] (by rfl) (by rfl) (World.news_of_block (cs := #[.pointer (some ⟨q10, 0, none⟩)]) (t := 127) (fr := (0, 0)) (heap_alloc_new' _ _ _ (by simp))) (by intro u hu; simp at hu; (first | (subst hu; rfl) | (rcases hu with rfl | rfl | rfl | rfl <;> rfl) | (rcases hu with rfl | rfl | rfl | rfl | rfl | rfl <;> rfl) | (rcases hu with rfl | rfl | rfl | rfl | rfl | rfl | rfl <;> rfl))) (by omega) (by unfold maxLen; omega) (by omega) (by simp; omega) _ rfl ?_; intro g3 cap3 w11 hown3 hgrow3 hat3 hlt3); have hx := hhx.out _ _ _ _ (by go_grown) hgrow3 hown3 hat3; have k11 := kept_of hgrow3 (w := w10) (by go_grown); obtain ⟨u_0, u_1, u_2, u_3, u_4, u_5⟩ := (hr10.kept k11 (fun e => hhn.out _ e.symm rfl)).box6; have uf_4 := (hw10.kept k11 (fun e => hhn.out _ e.symm rfl)).frz 4 (by omega); have ubl := World.block_lt_of_cell? _ _ u_0; dsimp only at ubl))
          all_goals
            obtain ⟨P12, F12, M12⟩ := hx
            clear hown3 hgrow3 hat3 hlt3 k11 u_0 u_1 u_2 u_3 u_4 u_5 uf_4 ubl r_0 r_1 r_2 r_3 r_4 r_5 hr10 hw10 hhx hho hhn hall cZ m_0 m_1 m_2 m_3 m_4 m_5
            generalize w11.setCell ⟨q, 4, none⟩ (.slice (some ⟨g3, 0, none⟩) (kn + 1) cap3) = w12 at *
            have cS := sign_c P12
            obtain ⟨a6, ha6⟩ : ∃ q, eqS (sgn (tokAt C.L C.E ob.i)) qBar = q := ⟨_, rfl⟩
            have c6 : ((sgn (tokAt C.L C.E ob.i)).toList == [124]) = a6 := (eqS_lit qBar rfl).trans ha6
            have hin6 : a6 = true → ob.i < C.L.length := fun h => (sgn_in (ha6.trans h) (by decide)).1
            have hmm := hm'.out
            rw [ha6] at hmm
            generalize sgn (tokAt C.L C.E ob.i) = sg6 at *
            replace cS := Lib.hid cS; replace hmm := Lib.hid hmm; replace ha6 := Lib.hid ha6; replace hin6 := Lib.hid hin6
            have hkl2 := hkl'.out
            have hn2 := hn.out
            replace hkl2 := Lib.hid hkl2; replace hn2 := Lib.hid hn2
            go_wp2_with (go_at_call 135; (with_reducible refine (cS.out).mono ?_); rintro e w13 ⟨rfl, hb13⟩)
            have hbl12 := P12.lt
            have FB := PF.of nv10 hb13 (Nat.le_of_lt hbl12)
            go_roundg g
            case rel =>
              refine ⟨a6, ⟨kids ++ [ob.t], pats ++ [layPx oq.t], ob.i, ob.ns⟩, nv10, _, _, _, _, rfl, Lib.hid ?_, Lib.hid ?_, Lib.hid ?_, Lib.hid ?_, P12.below hb13, F12.near hb13 (by omega), M12.step FB hbl⟩
              · have h := hmm.out
                cases a6
                · rw [if_neg (by simp)] at h
                  rw [if_neg (by simp)]
                  exact Option.some.inj h
                · rw [if_pos rfl] at h
                  rw [if_pos rfl]
                  exact h
              · have h1 := hkl2.out
                have h2 := hn2.out
                simp only [List.length_append, List.length_singleton]
                omega
              · have h2 := hn2.out
                simp only [List.length_append, List.length_singleton]
                omega
              · exact fun h _ => hin6.out h
            case measure => omega
end Go.Proofs.YtaimekaagmcmnaaGreat
