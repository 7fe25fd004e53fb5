/- Parts of the proof, merged: FoPat, FoIns. -/
import Derived.Test.YtfobkbjabenkkaaGreatPe7
/- Lists of Pat that the call owns: what they lead to, marks. Printed by gen_foot.py. -/
namespace Go.Proofs.YtfobkbjabenkkaaGreat
open Go.RowKit
set_option linter.unusedVariables false
set_option linter.unusedSimpArgs false
attribute [local go_sem] Ext.cell

def GPat.O : FootR GPat := fun bs w r x => ∃ u0 : Value, r = [u0] ∧ x.wf ∧ SlO 77 4 GPNode.O bs w u0 x.nodes
theorem GPat.ok : FootOk GPat.O GPat.R where
  loc := fun ⟨u0, hr, hwf, s0⟩ hs => ⟨u0, hr, hwf, s0.loc GPNode.ok hs⟩
  lt := fun ⟨u0, hr, hwf, s0⟩ => s0.lt GPNode.ok
  read := fun ⟨u0, hr, hwf, s0⟩ hlo => ⟨u0, hr, hwf, s0.sl GPNode.ok hlo⟩
def cntPat (x : GPat) : Nat := cntL cntPNode x.nodes
def mkPat (k : Nat) (x : GPat) : GPat := ⟨markL mkPNode cntPNode k x.nodes⟩
def LenOkPat (xs : List GPat) : Prop := xs.length ≤ 4611686018427387904 ∧ ∀ x ∈ xs, LenOkPNode x.nodes

set_option maxRecDepth 100000 in
set_option maxHeartbeats 4000000 in
theorem markPatS_c (v : Value) (bs : List Nat) (k lo : Nat) (z : Int) (hz : z = (k : Int)) (xs : List GPat) (w : World) (S : SlO 55 1 GPat.O bs w v xs) (hnd : bs.Nodup) (hlo : ∀ b ∈ bs, lo ≤ b) (hlw : lo ≤ w.heap.size) (hkn : k + cntL cntPat xs ≤ 4611686018427387904) (hlN : LenOkPat xs) :
    Calls Tryz.prog 27 #[v, .int .i64 z] w fun e w' => e = .returned (.int .i64 ((k + cntL cntPat xs : Nat) : Int)) ∧ SlO 55 1 GPat.O bs w' v (markL mkPat cntPat k xs) ∧ Kept (· ∈ bs) w w' ∧ Below lo w w' := by
  subst hz
  obtain ⟨a, c, rfl⟩ := S.form
  obtain ⟨n, hn⟩ : ∃ n, n = xs.length := ⟨_, rfl⟩
  have hln : n ≤ 4611686018427387904 := by rw [hn]; unfold LenOkPat at hlN; omega
  rw [← hn] at S ⊢
  replace hn := Lib.hid hn; replace S := Lib.hid S; replace hnd := Lib.hid hnd; replace hlo := Lib.hid hlo; replace hkn := Lib.hid hkn; replace hlN := Lib.hid hlN
  go_enter Tryz.func27, Tryz.ntmps27
  go_wp2_with fail
  go_loopw [1, 5] (fun kk i wr => ∃ m j : Nat, j ≤ n ∧ Hid (m = k + cntL cntPat (xs.take j)) ∧ kk = .int .i64 m ∧ i = .int .i64 j ∧ Hid (SlO 55 1 GPat.O bs wr (.slice a n c) (markN mkPat cntPat k xs j)) ∧ Below lo w wr ∧ Hid (Kept (· ∈ bs) w wr)) (fun _ i _ => n - (intOf i).toNat)
  case atStart => exact ⟨k, 0, by omega, by show _ = _; simp [cntL], rfl, rfl, by show SlO _ _ _ _ _ _ _; rw [markN_zero]; exact S.out, Below.refl _ _, Kept.refl _ _⟩
  case round =>
    clear S
    obtain ⟨m, j, hj, hm, rfl, rfl, S, hw0, hK0⟩ := hrel
    have hz0 := hw0.size
    by_cases hlt : j < n
    · obtain ⟨x, hx⟩ : ∃ x, xs[j]? = some x := ⟨_, List.getElem?_eq_getElem (by have := hn.out; omega)⟩
      have hks := cntL_take (cnt := cntPat) hx
      have hle := cntL_le cntPat xs (j + 1)
      have hmx : m + cntPat x ≤ 4611686018427387904 := by have := hkn.out; have := hm.out; omega
      have hS := S.out
      clear S
      rcases hS with ⟨he, _⟩ | ⟨ps, ⟨rows, hown, hrows⟩, hbs⟩
      · exfalso
        have := markN_length (mk := mkPat) (cnt := cntPat) k xs j
        rw [he] at this
        have := hn.out
        simp at *
        omega
      rw [markN_length, ← hn.out] at hown
      obtain ⟨g, cap, hv, -⟩ := own_cells hown (by omega)
      obtain ⟨rfl, rfl⟩ : a = some ⟨g, 0, none⟩ ∧ c = cap := by injection hv with e1 e2 e3; exact ⟨e1, e3⟩
      clear hv
      obtain ⟨p, r, hp, hr, hrl, ho⟩ := hrows.at (markN_get hx)
      have M0 := MidO.start hown hrows.wide (by rw [hrows.lr, markN_length, ← hn.out]) hr
      have hnd2 := hnd.out
      rw [hbs, fpO_slice, List.nodup_cons] at hnd2
      have hgp : g ∉ p := fun h => hnd2.1 (List.mem_flatten.2 ⟨p, List.mem_of_getElem? hp, h⟩)
      have hpn : p.Nodup := (List.pairwise_flatten.1 hnd2.2).1 p (List.mem_of_getElem? hp)
      have hpb : ∀ b ∈ p, b ∈ bs := fun b hb => by rw [hbs, fpO_slice]; exact List.mem_cons_of_mem _ (List.mem_flatten.2 ⟨p, List.mem_of_getElem? hp, hb⟩)
      have hgb : g ∈ bs := by rw [hbs, fpO_slice]; exact List.mem_cons_self
      have hlog : lo ≤ g := hlo.out g hgb
      have hgw := M0.lt
      obtain ⟨u0, rfl, hwf, s0⟩ := ho
      have hpe := hwf
      have hl0 := hlN.out.2 x (List.mem_of_getElem? hx)
      replace s0 := Lib.hid s0; replace hl0 := Lib.hid hl0
      unfold cntPat at hmx
      obtain ⟨e0, f0⟩ := M0.cell (off := j) (t := 0) (by omega) rfl
      clear hown
      replace hrows := Lib.hid hrows; replace hbs := Lib.hid hbs; replace hp := Lib.hid hp; replace hx := Lib.hid hx; replace hks := Lib.hid hks; replace hle := Lib.hid hle; replace M0 := Lib.hid M0; replace hr := Lib.hid hr; replace hrl := Lib.hid hrl; replace hwf := Lib.hid hwf; replace hnd2 := Lib.hid hnd2; replace hpb := Lib.hid hpb; replace hgp := Lib.hid hgp; replace hgb := Lib.hid hgb; replace hpe := Lib.hid hpe; replace hpn := Lib.hid hpn
      go_wp2_with fail
      refine (markPNodeS_c u0 p m lo _ rfl x.nodes _ s0.out hpn.out (fun b hb => hlo.out b (hpb.out b hb)) (by omega) (by omega) hl0.out).mono ?_
      rintro e w3 ⟨rfl, t0, hk3, hb3⟩
      have hz3 := hb3.size
      have MF := M0.out.kept hk3 hgp.out
      have KF := kept_imp (S' := fun b => b = g ∨ b ∈ p) hk3 fun q h => .inr h
      have BF := hw0.trans hb3
      replace MF := Lib.hid MF; replace KF := Lib.hid KF; replace t0 := Lib.hid t0
      obtain ⟨m1, hm1⟩ : ∃ y, y = m + cntL cntPNode x.nodes := ⟨_, rfl⟩
      rw [← hm1]
      replace hm1 := Lib.hid hm1
      clear hb3 hk3 e0 f0
      go_wp2_with fail
      go_roundw
      case rel => exact ⟨m1, j + 1, by omega, by show _ = _; rw [hks.out, hm1.out, hm.out]; unfold cntPat; omega, by go_num, by go_num, .inr ⟨ps, (GrowO.mark GPat.ok (k := k) rfl hrows.out hx.out hp.out (hbs.out ▸ hnd.out) (r := [u0]) rfl hn.out MF.out.own (by rw [← hm.out]; exact ⟨u0, rfl, trivial, t0.out⟩) KF.out), hbs.out⟩, BF, hK0.out.trans hz0 (kept_imp KF.out fun q h => by rcases h with h | h; (subst h; exact hgb.out); exact hpb.out q h)⟩
      case measure => simp [intOf]; omega
    · obtain rfl : j = n := by omega
      have e1 := hn.out
      have h2 := S.out
      have h3 := hm.out
      rw [List.take_of_length_le (by omega)] at h3
      rw [e1, markN_all, ← e1] at h2
      replace h2 := Lib.hid h2; replace h3 := Lib.hid h3
      clear e1
      go_wp2
      go_returns
      exact ⟨by rw [← h3.out]; rfl, h2.out, hK0.out, hw0⟩

set_option maxRecDepth 100000 in
set_option maxHeartbeats 4000000 in
theorem heldPatS_c (v : Value) (k lo : Nat) (z : Int) (hz : z = (k : Int)) (xs : List GPat) (w : World) (S : Sl GPat.R 1 lo w v (markL mkPat cntPat k xs)) (hkn : k + cntL cntPat xs ≤ 4611686018427387904) (hlN : LenOkPat xs) :
    Calls Tryz.prog 29 #[v, .int .i64 z] w fun e w' => e = .returned (.int .i64 ((k + cntL cntPat xs : Nat) : Int)) ∧ Below w.heap.size w w' := by
  subst hz
  obtain ⟨a, c, rfl, l1, m1, hh⟩ := S
  obtain ⟨n, hn⟩ : ∃ n, n = xs.length := ⟨_, rfl⟩
  have X1 : Hid (n = (markL mkPat cntPat k xs).length) := by show _ = _; rw [markL_length]; exact hn
  rw [markL_length, ← hn] at l1 ⊢
  have hln : n ≤ 4611686018427387904 := by rw [hn]; unfold LenOkPat at hlN; omega
  replace hn := Lib.hid hn; replace hkn := Lib.hid hkn; replace hh := Lib.hid hh; replace hlN := Lib.hid hlN
  go_enter Tryz.func29, Tryz.ntmps29
  go_wp2_with fail
  go_loopw [1, 5] (fun kk i wr => ∃ m j : Nat, j ≤ n ∧ Hid (m = k + cntL cntPat (xs.take j)) ∧ kk = .int .i64 m ∧ i = .int .i64 j ∧ Below w.heap.size w wr) (fun _ i _ => n - (intOf i).toNat)
  case atStart => exact ⟨k, 0, by omega, by show _ = _; simp [cntL], rfl, rfl, Below.refl _ _⟩
  case round =>
    obtain ⟨m, j, hj, hm, rfl, rfl, hw0⟩ := hrel
    have hz0 := hw0.size
    by_cases hlt : j < n
    · obtain ⟨x, hx⟩ : ∃ x, xs[j]? = some x := ⟨_, List.getElem?_eq_getElem (by have := hn.out; omega)⟩
      have hks := cntL_take (cnt := cntPat) hx
      have hle := cntL_le cntPat xs (j + 1)
      have hmx : m + cntPat x ≤ 4611686018427387904 := by have := hkn.out; have := hm.out; omega
      obtain ⟨b1, o1, y, s1, _, rfl, P1, q1, r1⟩ := (hh.out.below GPat.good hw0).get X1 hlt
      obtain rfl : mkPat m x = y := by
        have h := P1.out
        rw [markL_get hx, ← hm.out] at h
        exact Option.some.inj h
      obtain ⟨u0, rfl, -, a0⟩ := q1
      have hl0 := hlN.out.2 x (List.mem_of_getElem? hx)
      replace hl0 := Lib.hid hl0
      unfold cntPat at hmx
      have e0 : wr.cell? ⟨b1, o1 + j, none⟩ = some u0 := by simpa [mkPat] using r1 0 _ rfl
      have a1 : Sl GPNode.R 4 lo wr u0 (markL mkPNode cntPNode m x.nodes) := a0
      clear a0
      replace a1 := Lib.hid a1
      clear r1 P1
      replace hx := Lib.hid hx; replace hks := Lib.hid hks; replace hle := Lib.hid hle
      go_wp2_with fail
      refine (heldPNodeS_c u0 m lo _ rfl x.nodes _ a1.out (by omega) hl0.out).mono ?_
      rintro e w2 ⟨rfl, hb2⟩
      obtain ⟨m1, hm1⟩ : ∃ y, y = m + cntL cntPNode x.nodes := ⟨_, rfl⟩
      rw [← hm1]
      replace hm1 := Lib.hid hm1
      go_wp2_with fail
      go_roundw
      case rel => exact ⟨m1, j + 1, by omega, by show _ = _; rw [hks.out, hm1.out, hm.out]; unfold cntPat; omega, by go_num, by go_num, hw0.trans (hb2.mono hz0)⟩
      case measure => simp [intOf]; omega
    · obtain rfl : j = n := by omega
      have h3 := hm.out
      rw [List.take_of_length_le (by have := hn.out; omega)] at h3
      replace h3 := Lib.hid h3
      go_wp2
      go_returns
      exact ⟨by rw [← h3.out]; rfl, hw0⟩

end Go.Proofs.YtfobkbjabenkkaaGreat

/- Lists of Ins that the call owns: what they lead to, marks. Printed by gen_foot.py. -/
namespace Go.Proofs.YtfobkbjabenkkaaGreat
open Go.RowKit
set_option linter.unusedVariables false
set_option linter.unusedSimpArgs false
attribute [local go_sem] Ext.cell

def insRow (x : GIns) : List Value := [.int .i64 x.op, .int .i64 x.a, .int .i64 x.b, .string x.s]
theorem flatIns : Flat GIns.R 4 insRow GIns.wf := ⟨fun h => h, fun h _ _ => ⟨rfl, h⟩, fun _ => rfl, fun _ u hu => by simp [insRow] at hu; rcases hu with rfl | rfl | rfl | rfl <;> rfl, by decide⟩
abbrev GIns.O : FootR GIns := FlatO insRow GIns.wf
theorem GIns.ok : FootOk GIns.O GIns.R := flatO_ok flatIns
def cntIns (x : GIns) : Nat := 4
def mkIns (k : Nat) (x : GIns) : GIns := ⟨(k : Int), ((k + 1 : Nat) : Int), ((k + 2 : Nat) : Int), markT (k + 3)⟩
def LenOkIns (xs : List GIns) : Prop := xs.length ≤ 4611686018427387904

set_option maxRecDepth 100000 in
set_option maxHeartbeats 4000000 in
theorem markInsS_c (v : Value) (bs : List Nat) (k lo : Nat) (z : Int) (hz : z = (k : Int)) (xs : List GIns) (w : World) (S : SlO 57 4 GIns.O bs w v xs) (hnd : bs.Nodup) (hlo : ∀ b ∈ bs, lo ≤ b) (hlw : lo ≤ w.heap.size) (hkn : k + cntL cntIns xs ≤ 4611686018427387904) (hlN : LenOkIns xs) :
    Calls Tryz.prog 26 #[v, .int .i64 z] w fun e w' => e = .returned (.int .i64 ((k + cntL cntIns xs : Nat) : Int)) ∧ SlO 57 4 GIns.O bs w' v (markL mkIns cntIns k xs) ∧ Kept (· ∈ bs) w w' ∧ Below lo w w' := by
  subst hz
  obtain ⟨a, c, rfl⟩ := S.form
  obtain ⟨n, hn⟩ : ∃ n, n = xs.length := ⟨_, rfl⟩
  have hln : n ≤ 4611686018427387904 := by rw [hn]; unfold LenOkIns at hlN; omega
  rw [← hn] at S ⊢
  replace hn := Lib.hid hn; replace S := Lib.hid S; replace hnd := Lib.hid hnd; replace hlo := Lib.hid hlo; replace hkn := Lib.hid hkn; replace hlN := Lib.hid hlN
  go_enter Tryz.func26, Tryz.ntmps26
  go_wp2_with fail
  go_loopw [1, 5] (fun kk i wr => ∃ m j : Nat, j ≤ n ∧ Hid (m = k + cntL cntIns (xs.take j)) ∧ kk = .int .i64 m ∧ i = .int .i64 j ∧ Hid (SlO 57 4 GIns.O bs wr (.slice a n c) (markN mkIns cntIns k xs j)) ∧ Below lo w wr ∧ Hid (Kept (· ∈ bs) w wr)) (fun _ i _ => n - (intOf i).toNat)
  case atStart => exact ⟨k, 0, by omega, by show _ = _; simp [cntL], rfl, rfl, by show SlO _ _ _ _ _ _ _; rw [markN_zero]; exact S.out, Below.refl _ _, Kept.refl _ _⟩
  case round =>
    clear S
    obtain ⟨m, j, hj, hm, rfl, rfl, S, hw0, hK0⟩ := hrel
    have hz0 := hw0.size
    by_cases hlt : j < n
    · obtain ⟨x, hx⟩ : ∃ x, xs[j]? = some x := ⟨_, List.getElem?_eq_getElem (by have := hn.out; omega)⟩
      have hks := cntL_take (cnt := cntIns) hx
      have hle := cntL_le cntIns xs (j + 1)
      have hmx : m + cntIns x ≤ 4611686018427387904 := by have := hkn.out; have := hm.out; omega
      have hS := S.out
      clear S
      rcases hS with ⟨he, _⟩ | ⟨ps, ⟨rows, hown, hrows⟩, hbs⟩
      · exfalso
        have := markN_length (mk := mkIns) (cnt := cntIns) k xs j
        rw [he] at this
        have := hn.out
        simp at *
        omega
      rw [markN_length, ← hn.out] at hown
      obtain ⟨g, cap, hv, -⟩ := own_cells hown (by omega)
      obtain ⟨rfl, rfl⟩ : a = some ⟨g, 0, none⟩ ∧ c = cap := by injection hv with e1 e2 e3; exact ⟨e1, e3⟩
      clear hv
      obtain ⟨p, r, hp, hr, hrl, ho⟩ := hrows.at (markN_get hx)
      have M0 := MidO.start hown hrows.wide (by rw [hrows.lr, markN_length, ← hn.out]) hr
      have hnd2 := hnd.out
      rw [hbs, fpO_slice, List.nodup_cons] at hnd2
      have hgp : g ∉ p := fun h => hnd2.1 (List.mem_flatten.2 ⟨p, List.mem_of_getElem? hp, h⟩)
      have hpn : p.Nodup := (List.pairwise_flatten.1 hnd2.2).1 p (List.mem_of_getElem? hp)
      have hpb : ∀ b ∈ p, b ∈ bs := fun b hb => by rw [hbs, fpO_slice]; exact List.mem_cons_of_mem _ (List.mem_flatten.2 ⟨p, List.mem_of_getElem? hp, hb⟩)
      have hgb : g ∈ bs := by rw [hbs, fpO_slice]; exact List.mem_cons_self
      have hlog : lo ≤ g := hlo.out g hgb
      have hgw := M0.lt
      obtain ⟨hpe, rfl, hwf⟩ := ho
      unfold cntIns at hmx
      obtain ⟨e0, f0⟩ := M0.cell (off := j * 4) (t := 0) (by omega) rfl
      obtain ⟨e1, f1⟩ := M0.cell (off := j * 4 + 1) (t := 1) (by omega) rfl
      obtain ⟨e2, f2⟩ := M0.cell (off := j * 4 + 2) (t := 2) (by omega) rfl
      obtain ⟨e3, f3⟩ := M0.cell (off := j * 4 + 3) (t := 3) (by omega) rfl
      clear hown
      replace hrows := Lib.hid hrows; replace hbs := Lib.hid hbs; replace hp := Lib.hid hp; replace hx := Lib.hid hx; replace hks := Lib.hid hks; replace hle := Lib.hid hle; replace M0 := Lib.hid M0; replace hr := Lib.hid hr; replace hrl := Lib.hid hrl; replace hwf := Lib.hid hwf; replace hnd2 := Lib.hid hnd2; replace hpb := Lib.hid hpb; replace hgp := Lib.hid hgp; replace hgb := Lib.hid hgb; replace hpe := Lib.hid hpe; replace hpn := Lib.hid hpn
      go_wp2_with fail
      refine (markText_z (m + 3) _ (by omega) (by omega) _).mono ?_
      rintro e w2 ⟨rfl, hb2⟩
      have M1 := MidO.below (((M0.out.set (off := j * 4) (t := 0) (by omega) (by omega) (.int .i64 (m : Int))).set (off := j * 4 + 1) (t := 1) (by omega) (by omega) (.int .i64 ((m : Int) + 1))).set (off := j * 4 + 2) (t := 2) (by omega) (by omega) (.int .i64 ((m : Int) + 1 + 1))) hb2
      have K1 := ((((Kept.refl (fun b => b = g) wr).set (p := ⟨g, j * 4, none⟩) rfl (.int .i64 (m : Int))).set (p := ⟨g, j * 4 + 1, none⟩) rfl (.int .i64 ((m : Int) + 1))).set (p := ⟨g, j * 4 + 2, none⟩) rfl (.int .i64 ((m : Int) + 1 + 1))).trans (by simp [World.setCell]) (Kept.below hb2)
      have B1 := (((hw0.setCell (p := ⟨g, j * 4, none⟩) (by dsimp only; omega) (.int .i64 (m : Int))).setCell (p := ⟨g, j * 4 + 1, none⟩) (by dsimp only; omega) (.int .i64 ((m : Int) + 1))).setCell (p := ⟨g, j * 4 + 2, none⟩) (by dsimp only; omega) (.int .i64 ((m : Int) + 1 + 1))).trans (hb2.mono (by simp [World.setCell]; omega))
      have z1 := B1.size
      obtain ⟨e3', f3'⟩ := M1.cell (off := j * 4 + 3) (t := 3) (by omega) rfl
      clear hb2 e0 e1 e2 e3 f0 f1 f2 f3
      replace M1 := Lib.hid M1; replace K1 := Lib.hid K1
      go_wp2_with fail
      have KF := K1.out.set (p := ⟨g, j * 4 + 3, none⟩) rfl (.string (markT (m + 3)))
      have MF := M1.out.set (off := j * 4 + 3) (t := 3) (by omega) (by omega) (.string (markT (m + 3)))
      have BF := B1.setCell (p := ⟨g, j * 4 + 3, none⟩) (by dsimp only; omega) (.string (markT (m + 3)))
      go_roundw
      case rel => exact ⟨m + 4, j + 1, by omega, by show _ = _; rw [hks.out, hm.out]; rfl, by go_num, by go_num, .inr ⟨ps, (GrowO.mark GIns.ok (k := k) rfl hrows.out hx.out hp.out (hbs.out ▸ hnd.out) (r := [.int .i64 (m : Int), .int .i64 ((m : Int) + 1), .int .i64 ((m : Int) + 1 + 1), .string (markT (m + 3))]) rfl hn.out MF.own ⟨hpe.out, by rw [← hm.out]; simp [mkIns, insRow]; omega, by rw [← hm.out]; exact ⟨by unfold mkIns I64; dsimp only; omega, by unfold mkIns I64; dsimp only; omega, by unfold mkIns I64; dsimp only; omega, markT_ok (n := m + 3) (by omega)⟩⟩ (kept_imp KF fun q h => .inl h)), hbs.out⟩, BF, hK0.out.trans hz0 (kept_imp KF fun q h => by subst h; exact hgb.out)⟩
      case measure => simp [intOf]; omega
    · obtain rfl : j = n := by omega
      have e1 := hn.out
      have h2 := S.out
      have h3 := hm.out
      rw [List.take_of_length_le (by omega)] at h3
      rw [e1, markN_all, ← e1] at h2
      replace h2 := Lib.hid h2; replace h3 := Lib.hid h3
      clear e1
      go_wp2
      go_returns
      exact ⟨by rw [← h3.out]; rfl, h2.out, hK0.out, hw0⟩

set_option maxRecDepth 100000 in
set_option maxHeartbeats 4000000 in
theorem heldInsS_c (v : Value) (k lo : Nat) (z : Int) (hz : z = (k : Int)) (xs : List GIns) (w : World) (S : Sl GIns.R 4 lo w v (markL mkIns cntIns k xs)) (hkn : k + cntL cntIns xs ≤ 4611686018427387904) (hlN : LenOkIns xs) :
    Calls Tryz.prog 28 #[v, .int .i64 z] w fun e w' => e = .returned (.int .i64 ((k + cntL cntIns xs : Nat) : Int)) ∧ Below w.heap.size w w' := by
  subst hz
  obtain ⟨a, c, rfl, l1, m1, hh⟩ := S
  obtain ⟨n, hn⟩ : ∃ n, n = xs.length := ⟨_, rfl⟩
  have X1 : Hid (n = (markL mkIns cntIns k xs).length) := by show _ = _; rw [markL_length]; exact hn
  rw [markL_length, ← hn] at l1 ⊢
  have hln : n ≤ 4611686018427387904 := by rw [hn]; unfold LenOkIns at hlN; omega
  replace hn := Lib.hid hn; replace hkn := Lib.hid hkn; replace hh := Lib.hid hh; replace hlN := Lib.hid hlN
  go_enter Tryz.func28, Tryz.ntmps28
  go_wp2_with fail
  go_loopw [1, 5] (fun kk i wr => ∃ m j : Nat, j ≤ n ∧ Hid (m = k + cntL cntIns (xs.take j)) ∧ kk = .int .i64 m ∧ i = .int .i64 j ∧ Below w.heap.size w wr) (fun _ i _ => n - (intOf i).toNat)
  case atStart => exact ⟨k, 0, by omega, by show _ = _; simp [cntL], rfl, rfl, Below.refl _ _⟩
  case round =>
    obtain ⟨m, j, hj, hm, rfl, rfl, hw0⟩ := hrel
    have hz0 := hw0.size
    by_cases hlt : j < n
    · obtain ⟨x, hx⟩ : ∃ x, xs[j]? = some x := ⟨_, List.getElem?_eq_getElem (by have := hn.out; omega)⟩
      have hks := cntL_take (cnt := cntIns) hx
      have hle := cntL_le cntIns xs (j + 1)
      have hmx : m + cntIns x ≤ 4611686018427387904 := by have := hkn.out; have := hm.out; omega
      obtain ⟨b1, o1, y, s1, _, rfl, P1, q1, r1⟩ := (hh.out.below GIns.good hw0).get X1 hlt
      obtain rfl : mkIns m x = y := by
        have h := P1.out
        rw [markL_get hx, ← hm.out] at h
        exact Option.some.inj h
      obtain ⟨rfl, -⟩ := q1
      unfold cntIns at hmx
      have e0 : wr.cell? ⟨b1, o1 + j * 4, none⟩ = some (.int .i64 (m : Int)) := by simpa [mkIns] using r1 0 _ rfl
      have e1 : wr.cell? ⟨b1, o1 + j * 4 + 1, none⟩ = some (.int .i64 ((m : Int) + 1)) := by simpa [mkIns] using r1 1 _ rfl
      have e2 : wr.cell? ⟨b1, o1 + j * 4 + 2, none⟩ = some (.int .i64 ((m : Int) + 1 + 1)) := (r1 2 _ rfl).trans (by show some (Value.int .i64 _) = some (Value.int .i64 _); congr 2)
      have e3 : ∀ z : Ext wr, z.val.cell? ⟨b1, o1 + j * 4 + 3, none⟩ = some (.string (markT (m + 3))) := fun z => cell_below z.property (by simpa [mkIns] using r1 3 _ rfl)
      clear r1 P1
      replace hx := Lib.hid hx; replace hks := Lib.hid hks; replace hle := Lib.hid hle
      have ct := fun W => markText_z (m + 3) ((m : Int) + 1 + 1 + 1) (by omega) (by omega) W
      generalize markT (m + 3) = st at *
      go_wp2_with fail
      refine wp_region_ext_lit (by kernel_rfl) (by kernel_rfl) ?_
      repeat (go_big_quiet_step ((go_at_call 53; exact Calls.ext (ct _))))
      refine wpQuiet_nil ?_
      rintro w1 ⟨⟨_, hb⟩, rfl⟩
      have hw1 := hw0.trans (hb.mono hz0)
      clear e0 e1 e2 e3 ct hb hw0
      go_wp2_with fail
      go_roundw
      case rel => exact ⟨m + 4, j + 1, by omega, by show _ = _; rw [hks.out, hm.out]; rfl, by go_num, by go_num, hw1⟩
      case measure => simp [intOf]; omega
    · obtain rfl : j = n := by omega
      have h3 := hm.out
      rw [List.take_of_length_le (by have := hn.out; omega)] at h3
      replace h3 := Lib.hid h3
      go_wp2
      go_returns
      exact ⟨by rw [← h3.out]; rfl, hw0⟩

end Go.Proofs.YtfobkbjabenkkaaGreat
