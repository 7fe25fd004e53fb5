/- Parts of the proof, merged: FoPNode, FoPat, FoIns. -/
import Derived.Test.YtaimekaagmcmnaaGreatNe9
/- Lists of PNode that the call owns: what they lead to, marks. Printed by gen_foot.py. -/
namespace Go.Proofs.YtaimekaagmcmnaaGreat
open Go.RowKit
set_option linter.unusedVariables false
set_option linter.unusedSimpArgs false
attribute [local go_sem] Ext.cell

def GPNode.O : FootR GPNode := fun bs w r x => ∃ u0 : Value, r = [.int .i64 x.kind, .int .i64 x.n, .string x.s, u0] ∧ x.wf ∧ SlO 3 1 (FlatO intRow I64) bs w u0 x.kids
theorem GPNode.ok : FootOk GPNode.O GPNode.R where
  loc := fun ⟨u0, hr, hwf, s0⟩ hs => ⟨u0, hr, hwf, s0.loc (flatO_ok flatInt) hs⟩
  lt := fun ⟨u0, hr, hwf, s0⟩ => s0.lt (flatO_ok flatInt)
  read := fun ⟨u0, hr, hwf, s0⟩ hlo => ⟨u0, hr, hwf, s0.sl (flatO_ok flatInt) hlo⟩
def cntPNode (x : GPNode) : Nat := 3 + cntL cntInt x.kids
def mkPNode (k : Nat) (x : GPNode) : GPNode := ⟨(k : Int), ((k + 1 : Nat) : Int), markT (k + 2), markL mkInt cntInt (k + 3) x.kids⟩
def LenOkPNode (xs : List GPNode) : Prop := xs.length ≤ 4611686018427387904 ∧ ∀ x ∈ xs, x.kids.length ≤ 4611686018427387904

set_option maxRecDepth 100000 in
set_option maxHeartbeats 4000000 in
theorem markPNodeS_c (v : Value) (bs : List Nat) (k lo : Nat) (z : Int) (hz : z = (k : Int)) (xs : List GPNode) (w : World) (S : SlO 111 4 GPNode.O bs w v xs) (hnd : bs.Nodup) (hlo : ∀ b ∈ bs, lo ≤ b) (hlw : lo ≤ w.heap.size) (hkn : k + cntL cntPNode xs ≤ 4611686018427387904) (hlN : LenOkPNode xs) :
    Calls Tryz.prog 96 #[v, .int .i64 z] w fun e w' => e = .returned (.int .i64 ((k + cntL cntPNode xs : Nat) : Int)) ∧ SlO 111 4 GPNode.O bs w' v (markL mkPNode cntPNode k xs) ∧ Kept (· ∈ bs) w w' ∧ Below lo w w' := by
  subst hz
  obtain ⟨a, c, rfl⟩ := S.form
  obtain ⟨n, hn⟩ : ∃ n, n = xs.length := ⟨_, rfl⟩
  have hln : n ≤ 4611686018427387904 := by rw [hn]; unfold LenOkPNode at hlN; omega
  rw [← hn] at S ⊢
  replace hn := Lib.hid hn; replace S := Lib.hid S; replace hnd := Lib.hid hnd; replace hlo := Lib.hid hlo; replace hkn := Lib.hid hkn; replace hlN := Lib.hid hlN
  go_enter Tryz.func96, Tryz.ntmps96
  go_wp2_with fail
  go_loopw [1, 5] (fun kk i wr => ∃ m j : Nat, j ≤ n ∧ Hid (m = k + cntL cntPNode (xs.take j)) ∧ kk = .int .i64 m ∧ i = .int .i64 j ∧ Hid (SlO 111 4 GPNode.O bs wr (.slice a n c) (markN mkPNode cntPNode k xs j)) ∧ Below lo w wr ∧ Hid (Kept (· ∈ bs) w wr)) (fun _ i _ => n - (intOf i).toNat)
  case atStart => exact ⟨k, 0, by omega, by show _ = _; simp [cntL], rfl, rfl, by show SlO _ _ _ _ _ _ _; rw [markN_zero]; exact S.out, Below.refl _ _, Kept.refl _ _⟩
  case round =>
    clear S
    obtain ⟨m, j, hj, hm, rfl, rfl, S, hw0, hK0⟩ := hrel
    have hz0 := hw0.size
    by_cases hlt : j < n
    · obtain ⟨x, hx⟩ : ∃ x, xs[j]? = some x := ⟨_, List.getElem?_eq_getElem (by have := hn.out; omega)⟩
      have hks := cntL_take (cnt := cntPNode) hx
      have hle := cntL_le cntPNode xs (j + 1)
      have hmx : m + cntPNode x ≤ 4611686018427387904 := by have := hkn.out; have := hm.out; omega
      have hS := S.out
      clear S
      rcases hS with ⟨he, _⟩ | ⟨ps, ⟨rows, hown, hrows⟩, hbs⟩
      · exfalso
        have := markN_length (mk := mkPNode) (cnt := cntPNode) k xs j
        rw [he] at this
        have := hn.out
        simp at *
        omega
      rw [markN_length, ← hn.out] at hown
      obtain ⟨g, cap, hv, -⟩ := own_cells hown (by omega)
      obtain ⟨rfl, rfl⟩ : a = some ⟨g, 0, none⟩ ∧ c = cap := by injection hv with e1 e2 e3; exact ⟨e1, e3⟩
      clear hv
      obtain ⟨p, r, hp, hr, hrl, ho⟩ := hrows.at (markN_get hx)
      have M0 := MidO.start hown hrows.wide (by rw [hrows.lr, markN_length, ← hn.out]) hr
      have hnd2 := hnd.out
      rw [hbs, fpO_slice, List.nodup_cons] at hnd2
      have hgp : g ∉ p := fun h => hnd2.1 (List.mem_flatten.2 ⟨p, List.mem_of_getElem? hp, h⟩)
      have hpn : p.Nodup := (List.pairwise_flatten.1 hnd2.2).1 p (List.mem_of_getElem? hp)
      have hpb : ∀ b ∈ p, b ∈ bs := fun b hb => by rw [hbs, fpO_slice]; exact List.mem_cons_of_mem _ (List.mem_flatten.2 ⟨p, List.mem_of_getElem? hp, hb⟩)
      have hgb : g ∈ bs := by rw [hbs, fpO_slice]; exact List.mem_cons_self
      have hlog : lo ≤ g := hlo.out g hgb
      have hgw := M0.lt
      obtain ⟨u0, rfl, hwf, s0⟩ := ho
      have hpe := hwf
      have hl0 := hlN.out.2 x (List.mem_of_getElem? hx)
      replace s0 := Lib.hid s0
      unfold cntPNode at hmx
      obtain ⟨e0, f0⟩ := M0.cell (off := j * 4) (t := 0) (by omega) rfl
      obtain ⟨e1, f1⟩ := M0.cell (off := j * 4 + 1) (t := 1) (by omega) rfl
      obtain ⟨e2, f2⟩ := M0.cell (off := j * 4 + 2) (t := 2) (by omega) rfl
      obtain ⟨e3, f3⟩ := M0.cell (off := j * 4 + 3) (t := 3) (by omega) rfl
      clear hown
      replace hrows := Lib.hid hrows; replace hbs := Lib.hid hbs; replace hp := Lib.hid hp; replace hx := Lib.hid hx; replace hks := Lib.hid hks; replace hle := Lib.hid hle; replace M0 := Lib.hid M0; replace hr := Lib.hid hr; replace hrl := Lib.hid hrl; replace hwf := Lib.hid hwf; replace hnd2 := Lib.hid hnd2; replace hpb := Lib.hid hpb; replace hgp := Lib.hid hgp; replace hgb := Lib.hid hgb; replace hpe := Lib.hid hpe; replace hpn := Lib.hid hpn
      go_wp2_with fail
      refine (markText_z (m + 2) _ (by omega) (by omega) _).mono ?_
      rintro e w2 ⟨rfl, hb2⟩
      have M1 := MidO.below ((M0.out.set (off := j * 4) (t := 0) (by omega) (by omega) (.int .i64 (m : Int))).set (off := j * 4 + 1) (t := 1) (by omega) (by omega) (.int .i64 ((m : Int) + 1))) hb2
      have K1 := (((Kept.refl (fun b => b = g) wr).set (p := ⟨g, j * 4, none⟩) rfl (.int .i64 (m : Int))).set (p := ⟨g, j * 4 + 1, none⟩) rfl (.int .i64 ((m : Int) + 1))).trans (by simp [World.setCell]) (Kept.below hb2)
      have B1 := ((hw0.setCell (p := ⟨g, j * 4, none⟩) (by dsimp only; omega) (.int .i64 (m : Int))).setCell (p := ⟨g, j * 4 + 1, none⟩) (by dsimp only; omega) (.int .i64 ((m : Int) + 1))).trans (hb2.mono (by simp [World.setCell]; omega))
      have z1 := B1.size
      have gw1 := M1.lt
      obtain ⟨e2', f2'⟩ := M1.cell (off := j * 4 + 2) (t := 2) (by omega) rfl
      obtain ⟨e3', f3'⟩ := M1.cell (off := j * 4 + 3) (t := 3) (by omega) rfl
      have zz : wr.heap.size ≤ w2.heap.size := by have := hb2.size; simpa [World.setCell] using this
      clear hb2 e0 e1 e2 e3 f0 f1 f2 f3
      have M2 := M1.set (off := j * 4 + 2) (t := 2) (by omega) (by omega) (.string (markT (m + 2)))
      have K2 := K1.set (p := ⟨g, j * 4 + 2, none⟩) rfl (.string (markT (m + 2)))
      have B2 := B1.setCell (p := ⟨g, j * 4 + 2, none⟩) (by dsimp only; omega) (.string (markT (m + 2)))
      have z2 : (w2.setCell ⟨g, j * 4 + 2, none⟩ (.string (markT (m + 2)))).heap.size = w2.heap.size := by simp [World.setCell]
      replace M2 := Lib.hid M2; replace K2 := Lib.hid K2; replace B2 := Lib.hid B2; replace M1 := Lib.hid M1; replace K1 := Lib.hid K1
      go_wp2_with fail
      refine (markIntS_c u0 p (m + 3) lo _ (by omega) x.kids _ (s0.out.kept (flatO_ok flatInt) K2.out (fun b hb h => hgp.out (h ▸ hb))) hpn.out (fun b hb => hlo.out b (hpb.out b hb)) (by rw [z2]; omega) (by omega) hl0).mono ?_
      rintro e w3 ⟨rfl, t0, hk3, hb3⟩
      have hz3 := hb3.size
      rw [z2] at hz3
      have MF := M2.out.kept hk3 hgp.out
      have KF := (kept_imp (S' := fun b => b = g ∨ b ∈ p) K2.out fun q h => .inl h).trans (by rw [z2]; exact zz) (kept_imp hk3 fun q h => .inr h)
      have BF := B2.out.trans hb3
      replace MF := Lib.hid MF; replace KF := Lib.hid KF; replace t0 := Lib.hid t0
      obtain ⟨m1, hm1⟩ : ∃ y, y = m + 3 + cntL cntInt x.kids := ⟨_, rfl⟩
      rw [← hm1]
      replace hm1 := Lib.hid hm1
      clear hb3 hk3
      go_wp2_with fail
      go_roundw
      case rel => exact ⟨m1, j + 1, by omega, by show _ = _; rw [hks.out, hm1.out, hm.out]; unfold cntPNode; omega, by go_num, by go_num, .inr ⟨ps, (GrowO.mark GPNode.ok (k := k) rfl hrows.out hx.out hp.out (hbs.out ▸ hnd.out) (r := [.int .i64 (m : Int), .int .i64 ((m : Int) + 1), .string (markT (m + 2)), u0]) rfl hn.out MF.out.own (by rw [← hm.out]; exact ⟨u0, by simp [mkPNode], ⟨by unfold mkPNode I64; dsimp only; omega, by unfold mkPNode I64; dsimp only; omega, markT_ok (n := m + 2) (by omega)⟩, t0.out⟩) KF.out), hbs.out⟩, BF, hK0.out.trans hz0 (kept_imp KF.out fun q h => by rcases h with h | h; (subst h; exact hgb.out); exact hpb.out q h)⟩
      case measure => simp [intOf]; omega
    · obtain rfl : j = n := by omega
      have e1 := hn.out
      have h2 := S.out
      have h3 := hm.out
      rw [List.take_of_length_le (by omega)] at h3
      rw [e1, markN_all, ← e1] at h2
      replace h2 := Lib.hid h2; replace h3 := Lib.hid h3
      clear e1
      go_wp2
      go_returns
      exact ⟨by rw [← h3.out]; rfl, h2.out, hK0.out, hw0⟩

end Go.Proofs.YtaimekaagmcmnaaGreat

/- Lists of Pat that the call owns: what they lead to, marks. Printed by gen_foot.py. -/
namespace Go.Proofs.YtaimekaagmcmnaaGreat
open Go.RowKit
set_option linter.unusedVariables false
set_option linter.unusedSimpArgs false
attribute [local go_sem] Ext.cell

def GPat.O : FootR GPat := fun bs w r x => ∃ u0 : Value, r = [u0] ∧ x.wf ∧ SlO 111 4 GPNode.O bs w u0 x.nodes
theorem GPat.ok : FootOk GPat.O GPat.R where
  loc := fun ⟨u0, hr, hwf, s0⟩ hs => ⟨u0, hr, hwf, s0.loc GPNode.ok hs⟩
  lt := fun ⟨u0, hr, hwf, s0⟩ => s0.lt GPNode.ok
  read := fun ⟨u0, hr, hwf, s0⟩ hlo => ⟨u0, hr, hwf, s0.sl GPNode.ok hlo⟩
def cntPat (x : GPat) : Nat := cntL cntPNode x.nodes
def mkPat (k : Nat) (x : GPat) : GPat := ⟨markL mkPNode cntPNode k x.nodes⟩
def LenOkPat (xs : List GPat) : Prop := xs.length ≤ 4611686018427387904 ∧ ∀ x ∈ xs, LenOkPNode x.nodes

set_option maxRecDepth 100000 in
set_option maxHeartbeats 4000000 in
theorem markPatS_c (v : Value) (bs : List Nat) (k lo : Nat) (z : Int) (hz : z = (k : Int)) (xs : List GPat) (w : World) (S : SlO 83 1 GPat.O bs w v xs) (hnd : bs.Nodup) (hlo : ∀ b ∈ bs, lo ≤ b) (hlw : lo ≤ w.heap.size) (hkn : k + cntL cntPat xs ≤ 4611686018427387904) (hlN : LenOkPat xs) :
    Calls Tryz.prog 60 #[v, .int .i64 z] w fun e w' => e = .returned (.int .i64 ((k + cntL cntPat xs : Nat) : Int)) ∧ SlO 83 1 GPat.O bs w' v (markL mkPat cntPat k xs) ∧ Kept (· ∈ bs) w w' ∧ Below lo w w' := by
  subst hz
  obtain ⟨a, c, rfl⟩ := S.form
  obtain ⟨n, hn⟩ : ∃ n, n = xs.length := ⟨_, rfl⟩
  have hln : n ≤ 4611686018427387904 := by rw [hn]; unfold LenOkPat at hlN; omega
  rw [← hn] at S ⊢
  replace hn := Lib.hid hn; replace S := Lib.hid S; replace hnd := Lib.hid hnd; replace hlo := Lib.hid hlo; replace hkn := Lib.hid hkn; replace hlN := Lib.hid hlN
  go_enter Tryz.func60, Tryz.ntmps60
  go_wp2_with fail
  go_loopw [1, 5] (fun kk i wr => ∃ m j : Nat, j ≤ n ∧ Hid (m = k + cntL cntPat (xs.take j)) ∧ kk = .int .i64 m ∧ i = .int .i64 j ∧ Hid (SlO 83 1 GPat.O bs wr (.slice a n c) (markN mkPat cntPat k xs j)) ∧ Below lo w wr ∧ Hid (Kept (· ∈ bs) w wr)) (fun _ i _ => n - (intOf i).toNat)
  case atStart => exact ⟨k, 0, by omega, by show _ = _; simp [cntL], rfl, rfl, by show SlO _ _ _ _ _ _ _; rw [markN_zero]; exact S.out, Below.refl _ _, Kept.refl _ _⟩
  case round =>
    clear S
    obtain ⟨m, j, hj, hm, rfl, rfl, S, hw0, hK0⟩ := hrel
    have hz0 := hw0.size
    by_cases hlt : j < n
    · obtain ⟨x, hx⟩ : ∃ x, xs[j]? = some x := ⟨_, List.getElem?_eq_getElem (by have := hn.out; omega)⟩
      have hks := cntL_take (cnt := cntPat) hx
      have hle := cntL_le cntPat xs (j + 1)
      have hmx : m + cntPat x ≤ 4611686018427387904 := by have := hkn.out; have := hm.out; omega
      have hS := S.out
      clear S
      rcases hS with ⟨he, _⟩ | ⟨ps, ⟨rows, hown, hrows⟩, hbs⟩
      · exfalso
        have := markN_length (mk := mkPat) (cnt := cntPat) k xs j
        rw [he] at this
        have := hn.out
        simp at *
        omega
      rw [markN_length, ← hn.out] at hown
      obtain ⟨g, cap, hv, -⟩ := own_cells hown (by omega)
      obtain ⟨rfl, rfl⟩ : a = some ⟨g, 0, none⟩ ∧ c = cap := by injection hv with e1 e2 e3; exact ⟨e1, e3⟩
      clear hv
      obtain ⟨p, r, hp, hr, hrl, ho⟩ := hrows.at (markN_get hx)
      have M0 := MidO.start hown hrows.wide (by rw [hrows.lr, markN_length, ← hn.out]) hr
      have hnd2 := hnd.out
      rw [hbs, fpO_slice, List.nodup_cons] at hnd2
      have hgp : g ∉ p := fun h => hnd2.1 (List.mem_flatten.2 ⟨p, List.mem_of_getElem? hp, h⟩)
      have hpn : p.Nodup := (List.pairwise_flatten.1 hnd2.2).1 p (List.mem_of_getElem? hp)
      have hpb : ∀ b ∈ p, b ∈ bs := fun b hb => by rw [hbs, fpO_slice]; exact List.mem_cons_of_mem _ (List.mem_flatten.2 ⟨p, List.mem_of_getElem? hp, hb⟩)
      have hgb : g ∈ bs := by rw [hbs, fpO_slice]; exact List.mem_cons_self
      have hlog : lo ≤ g := hlo.out g hgb
      have hgw := M0.lt
      obtain ⟨u0, rfl, hwf, s0⟩ := ho
      have hpe := hwf
      have hl0 := hlN.out.2 x (List.mem_of_getElem? hx)
      replace s0 := Lib.hid s0; replace hl0 := Lib.hid hl0
      unfold cntPat at hmx
      obtain ⟨e0, f0⟩ := M0.cell (off := j) (t := 0) (by omega) rfl
      clear hown
      replace hrows := Lib.hid hrows; replace hbs := Lib.hid hbs; replace hp := Lib.hid hp; replace hx := Lib.hid hx; replace hks := Lib.hid hks; replace hle := Lib.hid hle; replace M0 := Lib.hid M0; replace hr := Lib.hid hr; replace hrl := Lib.hid hrl; replace hwf := Lib.hid hwf; replace hnd2 := Lib.hid hnd2; replace hpb := Lib.hid hpb; replace hgp := Lib.hid hgp; replace hgb := Lib.hid hgb; replace hpe := Lib.hid hpe; replace hpn := Lib.hid hpn
      go_wp2_with fail
      refine (markPNodeS_c u0 p m lo _ rfl x.nodes _ s0.out hpn.out (fun b hb => hlo.out b (hpb.out b hb)) (by omega) (by omega) hl0.out).mono ?_
      rintro e w3 ⟨rfl, t0, hk3, hb3⟩
      have hz3 := hb3.size
      have MF := M0.out.kept hk3 hgp.out
      have KF := kept_imp (S' := fun b => b = g ∨ b ∈ p) hk3 fun q h => .inr h
      have BF := hw0.trans hb3
      replace MF := Lib.hid MF; replace KF := Lib.hid KF; replace t0 := Lib.hid t0
      obtain ⟨m1, hm1⟩ : ∃ y, y = m + cntL cntPNode x.nodes := ⟨_, rfl⟩
      rw [← hm1]
      replace hm1 := Lib.hid hm1
      clear hb3 hk3 e0 f0
      go_wp2_with fail
      go_roundw
      case rel => exact ⟨m1, j + 1, by omega, by show _ = _; rw [hks.out, hm1.out, hm.out]; unfold cntPat; omega, by go_num, by go_num, .inr ⟨ps, (GrowO.mark GPat.ok (k := k) rfl hrows.out hx.out hp.out (hbs.out ▸ hnd.out) (r := [u0]) rfl hn.out MF.out.own (by rw [← hm.out]; exact ⟨u0, rfl, trivial, t0.out⟩) KF.out), hbs.out⟩, BF, hK0.out.trans hz0 (kept_imp KF.out fun q h => by rcases h with h | h; (subst h; exact hgb.out); exact hpb.out q h)⟩
      case measure => simp [intOf]; omega
    · obtain rfl : j = n := by omega
      have e1 := hn.out
      have h2 := S.out
      have h3 := hm.out
      rw [List.take_of_length_le (by omega)] at h3
      rw [e1, markN_all, ← e1] at h2
      replace h2 := Lib.hid h2; replace h3 := Lib.hid h3
      clear e1
      go_wp2
      go_returns
      exact ⟨by rw [← h3.out]; rfl, h2.out, hK0.out, hw0⟩

end Go.Proofs.YtaimekaagmcmnaaGreat

/- Lists of Ins that the call owns: what they lead to, marks. Printed by gen_foot.py. -/
namespace Go.Proofs.YtaimekaagmcmnaaGreat
open Go.RowKit
set_option linter.unusedVariables false
set_option linter.unusedSimpArgs false
attribute [local go_sem] Ext.cell

def insRow (x : GIns) : List Value := [.int .i64 x.op, .int .i64 x.a, .int .i64 x.b, .string x.s]
theorem flatIns : Flat GIns.R 4 insRow GIns.wf := ⟨fun h => h, fun h _ _ => ⟨rfl, h⟩, fun _ => rfl, fun _ u hu => by simp [insRow] at hu; rcases hu with rfl | rfl | rfl | rfl <;> rfl, by decide⟩
abbrev GIns.O : FootR GIns := FlatO insRow GIns.wf
theorem GIns.ok : FootOk GIns.O GIns.R := flatO_ok flatIns
end Go.Proofs.YtaimekaagmcmnaaGreat
