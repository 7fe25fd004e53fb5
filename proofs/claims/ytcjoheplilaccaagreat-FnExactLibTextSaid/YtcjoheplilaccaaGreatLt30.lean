/- Parts of the proof, merged: Gr2, InsOk, InsOk3a, PatD, Node. -/
import Derived.Deep.RegionHeld3
import Derived.Deep.RegionLaw
import Derived.Test.YtcjoheplilaccaaGreatLt29
/- The program's grow. -/
namespace Go.Proofs.YtcjoheplilaccaaGreat
open Go.RowKit
set_option linter.unusedVariables false
set_option linter.unusedSimpArgs false
attribute [local go_sem] Ext.cell

theorem info_exG : (Tryz.prog.info? 60).map (fun i => (i.zero, i.size, i.bytes)) = some (some (.pointer none), 1, 8) := by kernel_rfl
def GrPost (t : ExT) (w : World) (e : Ending) (w' : World) : Prop := ∃ q F, e = .returned (.pointer (some ⟨q, 0, none⟩)) ∧ ExR F (fun g => w.heap.size ≤ g) w' (.pointer (some ⟨q, 0, none⟩)) t ∧ Below w.heap.size w w'
theorem szEs_mem {l : List ExT} {j : Nat} {k : ExT} (h : l[j]? = some k) : szE k ≤ szEs l := by
  have := list_mid h
  rw [this, szEs_append, szEs]
  omega

set_option maxRecDepth 100000 in
set_option maxHeartbeats 16000000 in
theorem grow_c (N : List GNode) (hN : N.length ≤ 600) (hP : ∀ x ∈ N, PatsSm x.pats) : ∀ (f : Nat) (t : ExT) (a : Nat) (nv : Value) (lo : Nat) (w : World), szE t ≤ f → Laid N a t → Sl GNode.R 6 lo w nv N → Calls Tryz.prog 60 #[nv, .int .i64 (a : Int)] w (GrPost t w)
  | 0, t, a, nv, lo, w, hf, _, _ => by have := szE_pos t; omega
  | f + 1, t, a, nv, lo, w, hf, hL, hr => by
    have ih := grow_c N hN hP f
    obtain ⟨kd, at_, nn, s, ks, ps⟩ := t
    rw [szE_mk] at hf
    have hx := hL.head
    have hkid := fun j k (h : ks[j]? = some k) => hL.kid h
    have hak : a < N.length := (List.getElem?_eq_some_iff.1 hx).1
    obtain ⟨hps1, hps2⟩ := hP _ (List.mem_of_getElem? hx)
    dsimp only at hps1 hps2
    have hnv := hr
    obtain ⟨na, nc, rfl, ul, um, h0⟩ := hr
    obtain ⟨b1, o1, x, r, _, rfl, P1, hR, r1⟩ := h0.get (Lib.hid rfl) hak
    obtain rfl : (⟨kd, at_, nn, s, plE (a + 1) ks, ps⟩ : GNode) = x := by have := P1.out; rw [hx] at this; exact Option.some.inj this
    obtain ⟨v0, v1, rfl, hwf, hk0, hp0⟩ := hR
    have cP := fun W (hW : Below w.heap.size w W) => copyPats_o ps hps1 hps2 _ lo W (hp0.below GPat.good hW)
    have hki := fun W (hW : Below w.heap.size w W) => hk0.below IntR.good hW
    obtain ⟨ka, kc, rfl⟩ := hk0.form
    obtain ⟨pa, pc, rfl⟩ := hp0.form
    dsimp only at r1 cP hki
    have hwfI : (ExT.mk kd at_ nn s ks ps).wf := hwf
    obtain ⟨m, hm⟩ : ∃ m, m = ks.length := ⟨_, rfl⟩
    rw [plE_len, ← hm] at r1
    rw [plE_len, ← hm] at hki
    obtain ⟨pm, hpm⟩ : ∃ m, m = ps.length := ⟨_, rfl⟩
    rw [← hpm] at r1 cP
    obtain ⟨n, hn⟩ : ∃ n, n = N.length := ⟨_, rfl⟩
    have hml : m ≤ szEs ks := by rw [hm]; exact len_szEs ks
    have hszN : szEs ks ≤ 600 := by
      have h1 : (layE a (.mk kd at_ nn s ks ps)).length = szEs ks + 1 := by rw [layE_len, szE_mk]
      have h2 := hL (szEs ks) _ (List.getElem?_eq_getElem (by omega))
      have := (List.getElem?_eq_some_iff.1 h2).1
      omega
    have hpost : ∀ W q F, ExR F (fun g => w.heap.size ≤ g) W (.pointer (some ⟨q, 0, none⟩)) (.mk kd at_ nn s ks ps) → Below w.heap.size w W → GrPost (.mk kd at_ nn s ks ps) w (.returned (.pointer (some ⟨q, 0, none⟩))) W := fun W q F h1 h2 => ⟨q, F, rfl, h1, h2⟩
    generalize GrPost (.mk kd at_ nn s ks ps) w = Q at *
    rw [← hn] at hak ul hnv ⊢
    obtain ⟨e_0, e_1, e_2, e_3, e_4, e_5⟩ := r1.cells6
    have hbb1 := World.block_lt_of_cell? _ _ e_0; dsimp only at hbb1
    have hcast : ∀ j, j < m → ∃ (k : ExT) (z : Nat), ks[j]? = some k ∧ Laid N z k ∧ (plE (a + 1) ks)[j]? = some (z : Int) ∧ szE k ≤ f ∧ z < n := fun j hj => by
      obtain ⟨k, hk⟩ : ∃ k, ks[j]? = some k := ⟨_, List.getElem?_eq_getElem (by omega)⟩
      obtain ⟨h1, h2⟩ := hkid j k hk
      have h3 : N[_]? = some _ := h1 0 _ (List.getElem?_eq_getElem (by rw [layE_len]; exact szE_pos k))
      have h4 := (List.getElem?_eq_some_iff.1 h3).1
      exact ⟨k, _, hk, h1, h2, by have := szEs_mem hk; omega, by omega⟩
    clear h0 P1 hk0 hp0 hkid r1
    replace hm := Lib.hid hm; replace hpm := Lib.hid hpm; replace hn := Lib.hid hn; replace ih := Lib.hid ih; replace hcast := Lib.hid hcast; replace cP := Lib.hid cP; replace hki := Lib.hid hki; replace hpost := Lib.hid hpost; replace hL := Lib.hid hL; replace hx := Lib.hid hx; replace hwfI := Lib.hid hwfI; replace hps2 := Lib.hid hps2; replace hP := Lib.hid hP; replace hwf := Lib.hid hwf; replace hnv := Lib.hid hnv
    obtain ⟨iX, hi0, hz0, hz1, hz2⟩ := info_parts info_exG; have IX := Lib.hid hi0; have IX0 := Lib.hid hz0; have IX1 := Lib.hid hz1; have IX2 := Lib.hid hz2; clear hi0 hz0 hz1 hz2
    go_enter Tryz.func60, Tryz.ntmps60
    go_upto_region 2 with fail
    obtain ⟨w1, hW1⟩ : ∃ W, W = w.alloc (.cells #[.int .i64 kd, .int .i64 at_, .int .i64 nn, .string s, .slice ka m kc, .slice pa pm pc] 100) := ⟨_, rfl⟩
    rw [← hW1]
    have hb1 : Below w.heap.size w w1 := by rw [hW1]; go_grown
    have E1 : RowAt w1 w.heap.size 0 [.int .i64 kd, .int .i64 at_, .int .i64 nn, .string s, .slice ka m kc, .slice pa pm pc] := by rw [hW1]; exact RowAt.box w #[_, _, _, _, _, _] _
    have hs1 : w1.heap.size = w.heap.size + 1 := by rw [hW1]; simp
    obtain ⟨nb, hnb⟩ : ∃ x, x = w.heap.size := ⟨_, rfl⟩
    rw [← hnb] at E1 ⊢
    replace hnb := Lib.hid hnb
    clear hW1 e_0 e_1 e_2 e_3 e_4 e_5
    obtain ⟨e1_0, e1_1, e1_2, e1_3, e1_4, e1_5⟩ := E1.box6; have hsE1 := World.block_lt_of_cell? _ _ e1_0; dsimp only at hsE1
    have hd1 : Below w1.heap.size w1 w1.drew := (Below.refl _ _).drew
    go_cut [6] (fun sx wx => ∃ q pv bs, sx = .pointer (some ⟨q, 0, none⟩) ∧ GB w.heap.size q kd at_ nn s wx (.slice none 0 0) pv [] bs [] ps ∧ Below w.heap.size w wx ∧ RowAt wx nb 0 [.int .i64 kd, .int .i64 at_, .int .i64 nn, .string s, .slice ka m kc, .slice pa pm pc])
    case first =>
      go_region_held3 (fun w' => w'.cell? ⟨nb, 0, none⟩ = some (.int .i64 kd) ∧ w'.cell? ⟨nb, 1, none⟩ = some (.int .i64 at_) ∧ w'.cell? ⟨nb, 2, none⟩ = some (.int .i64 nn) ∧ w'.cell? ⟨nb, 3, none⟩ = some (.string s) ∧ w'.cell? ⟨nb, 5, none⟩ = some (.slice pa pm pc))
        (first | exact ⟨e1_0, e1_1, e1_2, e1_3, e1_5⟩ | exact ⟨e2_0, e2_1, e2_2, e2_3, e2_5⟩ | go_keep)
        (first | (go_at_call 57; (with_reducible refine (cP.out _ (hb1.drew)).mono ?_); rintro e w2 ⟨pv2, bs2, rfl, SP, nP, fP, hbP⟩; obtain ⟨a2, c2, rfl⟩ := SP.form; have hb2 : Below w1.heap.size w1 w2 := Below.trans (by go_grown) hbP; have E2 := E1.below hb2; obtain ⟨e2_0, e2_1, e2_2, e2_3, e2_4, e2_5⟩ := E2.box6; have hsE2 := World.block_lt_of_cell? _ _ e2_0; dsimp only at hsE2))
      all_goals go_wp2_with fail
      all_goals
        go_meet
        have hz2 := hb2.size
        have hnb' := hnb.out
        have hb3 : Below w2.heap.size w2 (w2.alloc (.cells #[.int .i64 kd, .int .i64 at_, .int .i64 nn, .string s, .slice none 0 0, .slice a2 ps.length c2] 95)) := by go_grown
        exact ⟨_, _, bs2, rfl, GB.start SP (fun g hg => by have := fP g hg; have := hd1.size; omega) (by omega) rfl rfl, (hb1.trans (hb2.mono (by omega))).trans (hb3.mono (by omega)), E2.below hb3⟩
    obtain ⟨q, pv, bs, rfl, GB0, hw, E⟩ := hcut
    clear hb1 E1 e1_0 e1_1 e1_2 e1_3 e1_4 e1_5 hsE1 hd1 hs1 cP
    obtain ⟨e_0, e_1, e_2, e_3, e_4, e_5⟩ := E.box6; have hsE := World.block_lt_of_cell? _ _ e_0; dsimp only at hsE
    replace GB0 := Lib.hid GB0
    go_wp2_with fail
    go_loopw [29] (fun ii wr => ∃ (j : Nat) (kv : Value) (vs : List Value), j ≤ m ∧ ii = .int .i64 j ∧ Hid (GB w.heap.size q kd at_ nn s wr kv pv vs bs (ks.take j) ps) ∧ Below w.heap.size w wr) (fun ii _ => m - (intOf ii).toNat)
    case atStart => exact ⟨0, _, _, by omega, rfl, by simpa using GB0, hw⟩
    case round =>
      clear GB0 hw E e_0 e_1 e_2 e_3 e_4 e_5 hsE
      obtain ⟨j, kv, vs, hj, rfl, GB1, hw⟩ := hrel
      have hsz := hw.size
      by_cases hjm : j < m
      · obtain ⟨k, z, hk, hLk, hpl, hszk, hzn⟩ := hcast.out j hjm
        have hkl := hki.out _ hw
        obtain ⟨ka', kc', hv', kl1, kl2, hk0⟩ := hkl
        obtain ⟨rfl, rfl⟩ : ka = ka' ∧ kc = kc' := by injection hv' with e1 e2 e3; exact ⟨e1, e3⟩
        obtain ⟨b2, o2, y, r2, _, rfl, P2, hy, r2'⟩ := hk0.get (n := m) (Lib.hid (by rw [plE_len]; exact hm.out)) hjm
        obtain rfl : (z : Int) = y := by have := P2.out; rw [hpl] at this; exact Option.some.inj this
        obtain ⟨rfl, hy64⟩ := hy
        have f_0 : wr.cell? ⟨b2, o2 + j, none⟩ = some (.int .i64 (z : Int)) := by simpa using r2' 0 _ rfl
        have hbb2 := World.block_lt_of_cell? _ _ f_0; dsimp only at hbb2
        have hwd := hw.drew
        have cG := ih.out k z _ lo wr.drew hszk hLk (hnv.out.below GNode.good hwd)
        have hkn : j = (ks.take j).length := by rw [List.length_take]; have := hm.out; omega
        obtain ⟨ka2, kc2, hkv⟩ := own_form GB1.out.kown
        rw [← hkn] at hkv
        subst hkv
        have htk : ks.take (j + 1) = ks.take j ++ [k] := by rw [List.take_add_one, hk]; rfl
        have GBd := GB1.out.below (show Below wr.heap.size wr wr.drew from (Below.refl _ _).drew)
        have hltq := GB1.out.lt
        have hall : ∀ (w2 : World) (q2 : Nat), (∃ F, ExR F (fun g => wr.drew.heap.size ≤ g) w2 (.pointer (some ⟨q2, 0, none⟩)) k) → Below wr.drew.heap.size wr.drew w2 →
            GB w.heap.size q kd at_ nn s w2 (.slice ka2 j kc2) pv vs bs (ks.take j) ps ∧ Below w.heap.size w w2 ∧
            (∀ (w3 w4 : World) g cap, Below w2.heap.size w2 w3 → w3.grownBy w4 (Value.slice ka2 j kc2).ownBlock → w4.ownsRow w.heap.size 60 1 (.slice (some ⟨g, 0, none⟩) (j + 1) cap) (j + 1) (vs ++ [.pointer (some ⟨q2, 0, none⟩)]) → ((Value.slice ka2 j kc2).ownBlock = some g ∨ g = w3.heap.size) →
              GB w.heap.size q kd at_ nn s (w4.setCell ⟨q, 4, none⟩ (.slice (some ⟨g, 0, none⟩) (j + 1) cap)) (.slice (some ⟨g, 0, none⟩) (j + 1) cap) pv (vs ++ [.pointer (some ⟨q2, 0, none⟩)]) bs (ks.take (j + 1)) ps ∧ Below w.heap.size w (w4.setCell ⟨q, 4, none⟩ (.slice (some ⟨g, 0, none⟩) (j + 1) cap))) := fun w2 q2 hX hb2 => by
          have G2 := GBd.below hb2
          have hz2 := hb2.size
          have hzd := hwd.size
          have hw2 := hwd.trans (hb2.mono hzd)
          refine ⟨G2, hw2, fun w3 w4 g cap hB h1 h2 h3 => ?_⟩
          have hT : ∃ F, ExR F (fun g => w.heap.size ≤ g ∧ g ≠ q ∧ (Value.slice ka2 j kc2).ownBlock ≠ some g) w2 (.pointer (some ⟨q2, 0, none⟩)) k := by
            obtain ⟨F, hF⟩ := hX
            refine ⟨F, hF.to (Same.below (Below.refl _ _)) fun g h1 _ => ?_⟩
            have hzr : wr.heap.size ≤ wr.drew.heap.size := by simp
            refine ⟨by omega, by omega, fun e => ?_⟩
            have := (own_base GB1.out.kown g e).2
            omega
          obtain ⟨A, B⟩ := G2.addKid hkn hT hB h1 h2 h3 rfl rfl
          rw [htk]
          exact ⟨A, hw2.trans (B (by omega))⟩
        clear hk0 P2 r2' GBd
        replace cG := Lib.hid cG; replace hall := Lib.hid hall; replace hkn := Lib.hid hkn; replace htk := Lib.hid htk; replace hpl := Lib.hid hpl; replace hk := Lib.hid hk; replace hLk := Lib.hid hLk
        obtain ⟨m_0, m_1, m_2, m_3, m_4, m_5⟩ := GB1.out.row.box6
        go_upto_region 6 with fail
        go_region_law
          (first
            | (go_simp; go_at_call 60; (with_reducible refine (cG.out).mono ?_); rintro e w2 ⟨q2, F2, rfl, X2, hb2⟩; obtain ⟨G2, hw2, hex⟩ := hall.out w2 q2 ⟨F2, X2⟩ hb2; have hown2 := G2.kown; rw [← hkn.out] at hown2; have hr2 := G2.row; have hwr2 := G2.wr; obtain ⟨r_0, r_1, r_2, r_3, r_4, r_5⟩ := hr2.box6; have hlt2 := G2.lt; have hne3 : ∀ g, (Value.slice ka2 j kc2).ownBlock = some g → g ≠ q := (fun g hg e => G2.kq (e ▸ hg)); have hz2 := hw2.size; have hhx := Lib.hid hex; have hho := Lib.hid hown2; have hhn := Lib.hid hne3; clear hex hown2 hne3 X2 hb2 G2)
            | ((refine step_append_lies _ (by rfl) _ _ _ (by rfl) (w.heap.size) 60 iX _ 1 8 Tryz.underlying92 IX.out IX0.out IX1.out IX2.out rfl (by omega) _ (j) (vs) (by rfl) (own_below hho.out (by go_grown)) ⟨w2.heap.size, 0, none⟩ 1 1 [.pointer (some ⟨q2, 0, none⟩)] (by rfl) (by rfl) (World.news_of_block (cs := #[.pointer (some ⟨q2, 0, none⟩)]) (t := 60) (fr := (0, 0)) (heap_alloc_new' _ _ _ (by simp))) (by intro u hu; simp at hu; (first | (subst hu; rfl) | (rcases hu with rfl | rfl | rfl | rfl <;> rfl) | (rcases hu with rfl | rfl | rfl | rfl | rfl | rfl <;> rfl) | (rcases hu with rfl | rfl | rfl | rfl | rfl | rfl | rfl <;> rfl))) (by omega) (by unfold maxLen; omega) (by omega) (by simp; omega) _ rfl ?_; intro g3 cap3 w11 hown3 hgrow3 hat3 hlt3); have hx2 := hhx.out _ _ _ _ (by go_grown) hgrow3 hown3 hat3; have k11 := kept_of hgrow3 (w := w2) (by go_grown); obtain ⟨u_0, u_1, u_2, u_3, u_4, u_5⟩ := (hr2.kept k11 (fun e => hhn.out _ e.symm rfl)).box6; have uf_4 := (hwr2.kept k11 (fun e => hhn.out _ e.symm rfl)).frz 4 (by omega); have ubl := World.block_lt_of_cell? _ _ u_0; dsimp only at ubl))
        all_goals
          obtain ⟨G12, hw12⟩ := hx2
          clear hown3 hgrow3 hat3 hlt3 k11 u_0 u_1 u_2 u_3 u_4 u_5 uf_4 ubl r_0 r_1 r_2 r_3 r_4 r_5 hr2 hwr2 hhx hho hhn hall cG m_0 m_1 m_2 m_3 m_4 m_5
          generalize w11.setCell ⟨q, 4, none⟩ (.slice (some ⟨g3, 0, none⟩) (j + 1) cap3) = w12 at *
          go_wp2_with fail
          go_roundw
          case rel => exact ⟨j + 1, _, _, by omega, by go_num, Lib.hid G12, hw12⟩
          case measure => simp [intOf]; omega
      · obtain rfl : j = m := by omega
        have hfull : ks.take j = ks := List.take_of_length_le (by have := hm.out; omega)
        rw [hfull] at GB1
        obtain ⟨FF, hFF⟩ := GB1.out.done hwfI.out ⟨hps1, hps2.out⟩
        go_wp2_with fail
        exact hpost.out _ q FF hFF hw
end Go.Proofs.YtcjoheplilaccaaGreat

/- When an instruction is right; the program's test. -/
namespace Go.Proofs.YtcjoheplilaccaaGreat
open Go.RowKit
set_option linter.unusedVariables false
set_option linter.unusedSimpArgs false
attribute [local go_sem] Ext.cell

def leadsP (op : Int) : Bool := op == 8 || (op == 9 || (op == 12 || (op == 13 || op == 18)))
def sPrint : List UInt8 := [112, 114, 105, 110, 116]
def sSay : List UInt8 := [115, 97, 121]
def sRead : List UInt8 := [114, 101, 97, 100]
def sSize : List UInt8 := [115, 105, 122, 101]
def givenOk (s : ByteArray) : Bool := s.toList == sPrint || (s.toList == sSay || (s.toList == sRead || s.toList == sSize))
def primB : List ByteArray := [⟨#[43]⟩, ⟨#[45]⟩, ⟨#[42]⟩, ⟨#[47]⟩, ⟨#[37]⟩, ⟨#[94]⟩, ⟨#[61]⟩, ⟨#[60, 62]⟩, ⟨#[60]⟩, ⟨#[60, 61]⟩]
def primOk (s : ByteArray) : Bool := primB.any fun y => s.toList == y.toList

theorem prim_row (w : World) (T : TypeId) : RowAt (w.alloc (.cells (primB.map Value.string).toArray T)) w.heap.size 0 (primB.map Value.string) := by
  have := RowAt.box w (primB.map Value.string).toArray T
  simpa using this
theorem prim_ok : ∀ y ∈ primB, StrOk y := by
  intro y hy
  have : y.size ≤ 5 := by
    revert y
    decide
  unfold StrOk; omega
set_option maxRecDepth 100000 in
set_option maxHeartbeats 4000000 in
theorem primOps_c (w : World) : Calls Tryz.prog 122 #[] w fun e w' => ∃ g, e = .returned (.slice (some ⟨g, 0, none⟩) 10 10) ∧ Sl StrR 1 0 w' (.slice (some ⟨g, 0, none⟩) 10 10) primB ∧ Below w.heap.size w w' := by
  go_enter Tryz.func122, Tryz.ntmps122
  go_wp2_with fail
  go_returns
  refine ⟨w.heap.size, rfl, ?_, by go_grown⟩
  exact (row_strs (prim_row w 9) prim_ok 10 (by decide) (by omega)).mono StrR.good (Nat.zero_le _)

def insOkP (n m : Nat) (x : GIns) : Bool :=
  if leadsP x.op then decide (0 ≤ x.a ∧ x.a ≤ (n : Int) - 1) && ((x.b == 0) && x.s.toList.isEmpty)
  else if x.op = 20 then decide (0 ≤ x.a ∧ x.a ≤ (m : Int) - 1) && (decide (0 ≤ x.b ∧ x.b ≤ (n : Int) - 1) && x.s.toList.isEmpty)
  else if x.op = 6 ∨ x.op = 15 then decide (0 ≤ x.a ∧ x.a ≤ 3000) && ((x.b == 0) && x.s.toList.isEmpty)
  else if x.op = 1 then decide (-4611686018427387904 ≤ x.a ∧ x.a ≤ 4611686018427387903) && ((x.b == 0) && x.s.toList.isEmpty)
  else if x.op = 4 then decide (0 ≤ x.a ∧ x.a ≤ 1) && ((x.b == 0) && conShape x.s x.a true)
  else if x.op = 2 then (x.a == 0) && (x.b == 0)
  else if x.op = 7 then (x.a == 0) && ((x.b == 0) && givenOk x.s)
  else if x.op = 16 then (x.a == 0) && ((x.b == 0) && primOk x.s)
  else decide (1 ≤ x.op ∧ x.op ≤ 25) && ((x.a == 0) && ((x.b == 0) && x.s.toList.isEmpty))

theorem insOk_kind (n m : Nat) (op a b : Int) (s : ByteArray) :
    (leadsP op = true ∧ insOkP n m ⟨op, a, b, s⟩ = (decide (0 ≤ a ∧ a ≤ (n : Int) - 1) && ((b == 0) && s.toList.isEmpty))) ∨
    (leadsP op = false ∧ (
      (op = 20 ∧ insOkP n m ⟨op, a, b, s⟩ = (decide (0 ≤ a ∧ a ≤ (m : Int) - 1) && (decide (0 ≤ b ∧ b ≤ (n : Int) - 1) && s.toList.isEmpty))) ∨
      ((op = 6 ∨ op = 15) ∧ insOkP n m ⟨op, a, b, s⟩ = (decide (0 ≤ a ∧ a ≤ 3000) && ((b == 0) && s.toList.isEmpty))) ∨
      (op = 1 ∧ insOkP n m ⟨op, a, b, s⟩ = (decide (-4611686018427387904 ≤ a ∧ a ≤ 4611686018427387903) && ((b == 0) && s.toList.isEmpty))) ∨
      (op = 4 ∧ insOkP n m ⟨op, a, b, s⟩ = (decide (0 ≤ a ∧ a ≤ 1) && ((b == 0) && conShape s a true))) ∨
      (op = 2 ∧ insOkP n m ⟨op, a, b, s⟩ = ((a == 0) && (b == 0))) ∨
      (op = 7 ∧ insOkP n m ⟨op, a, b, s⟩ = ((a == 0) && ((b == 0) && givenOk s))) ∨
      (op = 16 ∧ insOkP n m ⟨op, a, b, s⟩ = ((a == 0) && ((b == 0) && primOk s))) ∨
      ((op == 20) = false ∧ (op == 6) = false ∧ (op == 15) = false ∧ (op == 1) = false ∧ (op == 4) = false ∧ (op == 2) = false ∧ (op == 7) = false ∧ (op == 16) = false ∧
        insOkP n m ⟨op, a, b, s⟩ = (decide (1 ≤ op ∧ op ≤ 25) && ((a == 0) && ((b == 0) && s.toList.isEmpty)))))) := by
  unfold insOkP
  dsimp only
  cases hl : leadsP op
  · refine .inr ⟨rfl, ?_⟩
    rw [if_neg (by decide)]
    by_cases h20 : op = 20
    · exact .inl ⟨h20, by rw [if_pos h20]⟩
    by_cases h6 : op = 6 ∨ op = 15
    · exact .inr (.inl ⟨h6, by rw [if_neg h20, if_pos h6]⟩)
    by_cases h1 : op = 1
    · exact .inr (.inr (.inl ⟨h1, by rw [if_neg h20, if_neg h6, if_pos h1]⟩))
    by_cases h4 : op = 4
    · exact .inr (.inr (.inr (.inl ⟨h4, by rw [if_neg h20, if_neg h6, if_neg h1, if_pos h4]⟩)))
    by_cases h2 : op = 2
    · exact .inr (.inr (.inr (.inr (.inl ⟨h2, by rw [if_neg h20, if_neg h6, if_neg h1, if_neg h4, if_pos h2]⟩))))
    by_cases h7 : op = 7
    · exact .inr (.inr (.inr (.inr (.inr (.inl ⟨h7, by rw [if_neg h20, if_neg h6, if_neg h1, if_neg h4, if_neg h2, if_pos h7]⟩)))))
    by_cases h16 : op = 16
    · exact .inr (.inr (.inr (.inr (.inr (.inr (.inl ⟨h16, by rw [if_neg h20, if_neg h6, if_neg h1, if_neg h4, if_neg h2, if_neg h7, if_pos h16]⟩))))))
    refine .inr (.inr (.inr (.inr (.inr (.inr (.inr ⟨by simpa using h20, by simpa using fun h => h6 (.inl h), by simpa using fun h => h6 (.inr h), by simpa using h1, by simpa using h4, by simpa using h2, by simpa using h7, by simpa using h16, ?_⟩))))))
    rw [if_neg h20, if_neg h6, if_neg h1, if_neg h4, if_neg h2, if_neg h7, if_neg h16]
  · exact .inl ⟨rfl, by rw [if_pos rfl]⟩


end Go.Proofs.YtcjoheplilaccaaGreat

/- When an instruction is right: the reference's test: its parts. -/
namespace Go.Proofs.YtcjoheplilaccaaGreat
open Go.RowKit
set_option linter.unusedVariables false
set_option linter.unusedSimpArgs false
attribute [local go_sem] Ext.cell

theorem leadsP_cases {op : Int} (h : leadsP op = true) : op = 8 ∨ op = 9 ∨ op = 12 ∨ op = 13 ∨ op = 18 := by
  unfold leadsP at h
  simpa using h
theorem leadsP_not {op : Int} (h : leadsP op = false) : (op == 8) = false ∧ (op == 9) = false ∧ (op == 12) = false ∧ (op == 13) = false ∧ (op == 18) = false := by
  unfold leadsP at h
  simpa using h

end Go.Proofs.YtcjoheplilaccaaGreat

/- A pattern read as a value (the same cells). -/
namespace Go.Proofs.YtcjoheplilaccaaGreat
open Go.RowKit
set_option linter.unusedVariables false
set_option linter.unusedSimpArgs false

def toD (x : GPNode) : GDNode := ⟨x.kind, x.n, x.s, x.kids⟩
def patD (q : GPat) : GData := ⟨q.nodes.map toD⟩
theorem Sl.map' {α β : Type} {R : Reading α} {R' : Reading β} (f : α → β) (hf : ∀ lo w r x, R lo w r x → R' lo w r (f x)) {sz lo : Nat} {w : World} {v : Value} {xs : List α} (h : Sl R sz lo w v xs) : Sl R' sz lo w v (xs.map f) := by
  obtain ⟨a, c, rfl, h1, h2, h3⟩ := h
  refine ⟨a, c, by rw [List.length_map], by rw [List.length_map]; exact h1, h2, fun h0 => ?_⟩
  obtain ⟨b, off, h4, h5, h6⟩ := h3 (by rwa [List.length_map] at h0)
  refine ⟨b, off, h4, h5, fun i y hy => ?_⟩
  rw [List.getElem?_map] at hy
  obtain ⟨x, hx, rfl⟩ := Option.map_eq_some_iff.1 hy
  obtain ⟨r, h7, h8⟩ := h6 i x hx
  exact ⟨r, hf _ _ _ _ h7, h8⟩
theorem GPat.toData {lo : Nat} {w : World} {r : List Value} {q : GPat} (h : GPat.R lo w r q) : GData.R lo w r (patD q) := by
  obtain ⟨u0, hr, _, h0⟩ := h
  exact ⟨u0, hr, trivial, h0.map' toD fun lo w r x hx => hx⟩
end Go.Proofs.YtcjoheplilaccaaGreat

/- A program's node: when it is right; arity; the name's closure. -/
namespace Go.Proofs.YtcjoheplilaccaaGreat
open Go.RowKit
set_option linter.unusedVariables false
set_option linter.unusedSimpArgs false
attribute [local go_sem] Ext.cell

def asD (x : GNode) : GDNode := ⟨x.kind, x.n, x.s, x.kids⟩
def nkind (N : List GNode) (k : Int) : Int := if 0 ≤ k then (N[k.toNat]?.map (·.kind)).getD 0 else 0
def firstK (N : List GNode) (ks : List Int) : Int := match ks with
  | k :: _ => nkind N k
  | [] => 0
def arP (k : Int) : Int := if k = 1 ∨ k = 2 ∨ k = 3 ∨ k = 12 then 0 else if k = 5 ∨ k = 14 ∨ k = 16 ∨ k = 17 then 1 else if k = 6 ∨ k = 7 ∨ k = 8 ∨ k = 10 ∨ k = 11 ∨ k = 15 ∨ k = 18 ∨ k = 19 then 2 else if k = 9 then 3 else -1
def nodBad (x : GNode) : Bool := (decide (x.at_ < 0) || (decide (0 ≤ arP x.kind) && ((x.kids.length : Int) != arP x.kind))) || ((x.kind != 13 && decide (0 < (x.pats.length : Int))) || ((x.kind != 1 && x.kind != 3) && (x.n != 0)))
def nameN (x : GNode) : Bool := nameOk x.s && x.n == 0
def nodBody (N : List GNode) (x : GNode) : Bool :=
  if x.kind = 1 then decide (0 ≤ x.n ∧ x.n ≤ 4611686018427387903) && x.s.toList.isEmpty
  else if x.kind = 2 then true
  else if x.kind = 3 ∨ x.kind = 5 ∨ x.kind = 7 ∨ x.kind = 15 then nameN x
  else if x.kind = 8 then nameN x && firstK N x.kids == 5
  else if x.kind = 10 then primOk x.s
  else if x.kind = 4 then conShape x.s x.kids.length ((x.kids.length : Int) == 1 && firstK N x.kids == 11)
  else if x.kind = 6 ∨ x.kind = 9 ∨ x.kind = 11 ∨ x.kind = 12 ∨ x.kind = 14 ∨ x.kind = 16 ∨ x.kind = 17 ∨ x.kind = 18 ∨ x.kind = 19 then x.s.toList.isEmpty
  else if x.kind = 13 then x.s.toList.isEmpty && (decide (1 ≤ (x.pats.length : Int)) && (x.kids.length : Int) == (x.pats.length : Int) + 1)
  else false
def nodOk (N : List GNode) (x : GNode) : Bool := !nodBad x && nodBody N x

theorem kind19 (k : Int) : k = 1 ∨ k = 2 ∨ k = 3 ∨ k = 4 ∨ k = 5 ∨ k = 6 ∨ k = 7 ∨ k = 8 ∨ k = 9 ∨ k = 10 ∨ k = 11 ∨ k = 12 ∨ k = 13 ∨ k = 14 ∨ k = 15 ∨ k = 16 ∨ k = 17 ∨ k = 18 ∨ k = 19 ∨ (k < 1 ∨ 19 < k) := by omega
theorem kindOut {k : Int} (h : k < 1 ∨ 19 < k) : ∀ j : Int, 1 ≤ j → j ≤ 19 → (k == j) = false := fun j h1 h2 => by rw [beq_eq_false_iff_ne]; omega
theorem arP_out {k : Int} (h : k < 1 ∨ 19 < k) : arP k = -1 := by
  unfold arP
  rw [if_neg (by omega), if_neg (by omega), if_neg (by omega), if_neg (by omega)]

set_option maxRecDepth 100000 in
set_option maxHeartbeats 4000000 in
theorem arity_c (k : Int) (w : World) : Calls Tryz.prog 121 #[.int .i64 k] w fun e w' => e = .returned (.int .i64 (arP k)) ∧ w = w' := by
  rcases kind19 k with rfl | rfl | rfl | rfl | rfl | rfl | rfl | rfl | rfl | rfl | rfl | rfl | rfl | rfl | rfl | rfl | rfl | rfl | rfl | h
  case inr.inr.inr.inr.inr.inr.inr.inr.inr.inr.inr.inr.inr.inr.inr.inr.inr.inr.inr =>
    rw [arP_out h]
    have hj := kindOut h
    have n1 := hj 1 (by omega) (by omega); have n2 := hj 2 (by omega) (by omega); have n3 := hj 3 (by omega) (by omega); have n4 := hj 4 (by omega) (by omega); have n5 := hj 5 (by omega) (by omega); have n6 := hj 6 (by omega) (by omega); have n7 := hj 7 (by omega) (by omega); have n8 := hj 8 (by omega) (by omega); have n9 := hj 9 (by omega) (by omega); have n10 := hj 10 (by omega) (by omega); have n11 := hj 11 (by omega) (by omega); have n12 := hj 12 (by omega) (by omega); have n13 := hj 13 (by omega) (by omega); have n14 := hj 14 (by omega) (by omega); have n15 := hj 15 (by omega) (by omega); have n16 := hj 16 (by omega) (by omega); have n17 := hj 17 (by omega) (by omega); have n18 := hj 18 (by omega) (by omega); have n19 := hj 19 (by omega) (by omega)
    clear hj h
    go_enter Tryz.func121, Tryz.ntmps121
    go_wp2_with fail
    go_returns
    exact ⟨rfl, rfl⟩
  all_goals
    go_enter Tryz.func121, Tryz.ntmps121
    go_wp2_with fail
    go_returns
    exact ⟨rfl, rfl⟩
set_option maxRecDepth 100000 in
set_option maxHeartbeats 4000000 in
theorem nameN_c (kd at_ nn : Int) (s : ByteArray) (u0 u1 : Value) (hs : StrOk s) (w : World) : Calls Tryz.prog 86 #[.agg #[.int .i64 kd, .int .i64 at_, .int .i64 nn, .string s, u0, u1]] w fun e w' => e = .returned (.bool (nameOk s && nn == 0)) ∧ Below w.heap.size w w' := by
  have cN := fun W => impl_NameOk_c s hs W
  generalize nameOk s = q at *
  cases q <;> cases e1 : (nn == 0)
  all_goals
    go_enter Tryz.func86, Tryz.ntmps86
    go_upto_region 1 with fail
    have D : RowAt (w.alloc (.cells #[.int .i64 kd, .int .i64 at_, .int .i64 nn, .string s, u0, u1] 100)) (w.heap.size) 0 [.int .i64 kd, .int .i64 at_, .int .i64 nn, .string s, u0, u1] := RowAt.box w #[.int .i64 kd, .int .i64 at_, .int .i64 nn, .string s, u0, u1] 100
    have hw : Below w.heap.size w (w.alloc (.cells #[.int .i64 kd, .int .i64 at_, .int .i64 nn, .string s, u0, u1] 100)) := by go_grown
    generalize (w.alloc (.cells #[.int .i64 kd, .int .i64 at_, .int .i64 nn, .string s, u0, u1] 100)) = w0 at *
    obtain ⟨d_0, d_1, d_2, d_3, d_4, d_5⟩ := D.box6; have hsD := World.block_lt_of_cell? _ _ d_0; dsimp only at hsD
    go_wp2_with (go_at_call 71; ((with_reducible refine (cN _).mono ?_); rintro e w1 ⟨rfl, hb⟩; have hw := hw.trans (hb.mono hw.size); have D := D.below hb; obtain ⟨d_0, d_1, d_2, d_3, d_4, d_5⟩ := D.box6; have hsD := World.block_lt_of_cell? _ _ d_0; dsimp only at hsD; clear hb))
    go_returns
    exact ⟨rfl, hw⟩
end Go.Proofs.YtcjoheplilaccaaGreat
