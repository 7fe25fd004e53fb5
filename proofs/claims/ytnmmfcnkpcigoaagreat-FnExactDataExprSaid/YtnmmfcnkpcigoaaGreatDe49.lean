/- Parts of the proof, merged: FoNode, FoProg. -/
import Derived.Test.YtnmmfcnkpcigoaaGreatDe48
/- Lists of Node that the call owns: what they lead to, marks. Printed by gen_foot.py. -/
namespace Go.Proofs.YtnmmfcnkpcigoaaGreat
open Go.RowKit
set_option linter.unusedVariables false
set_option linter.unusedSimpArgs false
attribute [local go_sem] Ext.cell

def cntNode (x : GNode) : Nat := 4 + cntL cntInt x.kids + cntL cntPat x.pats
def mkNode (k : Nat) (x : GNode) : GNode := ⟨(k : Int), ((k + 1 : Nat) : Int), ((k + 2 : Nat) : Int), markT (k + 3), markL mkInt cntInt (k + 4) x.kids, markL mkPat cntPat (k + 4 + cntL cntInt x.kids) x.pats⟩
def LenOkNode (xs : List GNode) : Prop := xs.length ≤ 4611686018427387904 ∧ ∀ x ∈ xs, x.kids.length ≤ 4611686018427387904 ∧ LenOkPat x.pats

set_option maxRecDepth 100000 in
set_option maxHeartbeats 4000000 in
theorem markNodeS_c (v : Value) (bs : List Nat) (k lo : Nat) (z : Int) (hz : z = (k : Int)) (xs : List GNode) (w : World) (S : SlO 47 6 GNode.O bs w v xs) (hnd : bs.Nodup) (hlo : ∀ b ∈ bs, lo ≤ b) (hlw : lo ≤ w.heap.size) (hkn : k + cntL cntNode xs ≤ 4611686018427387904) (hlN : LenOkNode xs) :
    Calls Tryz.prog 29 #[v, .int .i64 z] w fun e w' => e = .returned (.int .i64 ((k + cntL cntNode xs : Nat) : Int)) ∧ SlO 47 6 GNode.O bs w' v (markL mkNode cntNode k xs) ∧ Kept (· ∈ bs) w w' ∧ Below lo w w' := by
  subst hz
  obtain ⟨a, c, rfl⟩ := S.form
  obtain ⟨n, hn⟩ : ∃ n, n = xs.length := ⟨_, rfl⟩
  have hln : n ≤ 4611686018427387904 := by rw [hn]; unfold LenOkNode at hlN; omega
  rw [← hn] at S ⊢
  replace hn := Lib.hid hn; replace S := Lib.hid S; replace hnd := Lib.hid hnd; replace hlo := Lib.hid hlo; replace hkn := Lib.hid hkn; replace hlN := Lib.hid hlN
  go_enter Tryz.func29, Tryz.ntmps29
  go_wp2_with fail
  go_loopw [1, 5] (fun kk i wr => ∃ m j : Nat, j ≤ n ∧ Hid (m = k + cntL cntNode (xs.take j)) ∧ kk = .int .i64 m ∧ i = .int .i64 j ∧ Hid (SlO 47 6 GNode.O bs wr (.slice a n c) (markN mkNode cntNode k xs j)) ∧ Below lo w wr ∧ Hid (Kept (· ∈ bs) w wr)) (fun _ i _ => n - (intOf i).toNat)
  case atStart => exact ⟨k, 0, by omega, by show _ = _; simp [cntL], rfl, rfl, by show SlO _ _ _ _ _ _ _; rw [markN_zero]; exact S.out, Below.refl _ _, Kept.refl _ _⟩
  case round =>
    clear S
    obtain ⟨m, j, hj, hm, rfl, rfl, S, hw0, hK0⟩ := hrel
    have hz0 := hw0.size
    by_cases hlt : j < n
    · obtain ⟨x, hx⟩ : ∃ x, xs[j]? = some x := ⟨_, List.getElem?_eq_getElem (by have := hn.out; omega)⟩
      have hks := cntL_take (cnt := cntNode) hx
      have hle := cntL_le cntNode xs (j + 1)
      have hmx : m + cntNode x ≤ 4611686018427387904 := by have := hkn.out; have := hm.out; omega
      have hS := S.out
      clear S
      rcases hS with ⟨he, _⟩ | ⟨ps, ⟨rows, hown, hrows⟩, hbs⟩
      · exfalso
        have := markN_length (mk := mkNode) (cnt := cntNode) k xs j
        rw [he] at this
        have := hn.out
        simp at *
        omega
      rw [markN_length, ← hn.out] at hown
      obtain ⟨g, cap, hv, -⟩ := own_cells hown (by omega)
      obtain ⟨rfl, rfl⟩ : a = some ⟨g, 0, none⟩ ∧ c = cap := by injection hv with e1 e2 e3; exact ⟨e1, e3⟩
      clear hv
      obtain ⟨p, r, hp, hr, hrl, ho⟩ := hrows.at (markN_get hx)
      have M0 := MidO.start hown hrows.wide (by rw [hrows.lr, markN_length, ← hn.out]) hr
      have hnd2 := hnd.out
      rw [hbs, fpO_slice, List.nodup_cons] at hnd2
      have hgp : g ∉ p := fun h => hnd2.1 (List.mem_flatten.2 ⟨p, List.mem_of_getElem? hp, h⟩)
      have hpn : p.Nodup := (List.pairwise_flatten.1 hnd2.2).1 p (List.mem_of_getElem? hp)
      have hpb : ∀ b ∈ p, b ∈ bs := fun b hb => by rw [hbs, fpO_slice]; exact List.mem_cons_of_mem _ (List.mem_flatten.2 ⟨p, List.mem_of_getElem? hp, hb⟩)
      have hgb : g ∈ bs := by rw [hbs, fpO_slice]; exact List.mem_cons_self
      have hlog : lo ≤ g := hlo.out g hgb
      have hgw := M0.lt
      obtain ⟨u0, p0, u1, p1, rfl, hpp, hwf, s0, s1⟩ := ho
      have hpe := hwf
      have hp0 : ∀ b ∈ p0, b ∈ p := fun b hb => by rw [hpp]; exact List.mem_append_left _ hb
      have hp1 : ∀ b ∈ p1, b ∈ p := fun b hb => by rw [hpp]; exact List.mem_append_right _ hb
      have hpd : p0.Nodup ∧ p1.Nodup ∧ ∀ b ∈ p0, b ∉ p1 := by rw [hpp] at hpn; have h := List.nodup_append.1 hpn; exact ⟨h.1, h.2.1, fun b h1 h2 => h.2.2 b h1 b h2 rfl⟩
      obtain ⟨hl0, hl1⟩ := hlN.out.2 x (List.mem_of_getElem? hx)
      replace s0 := Lib.hid s0; replace s1 := Lib.hid s1; replace hl1 := Lib.hid hl1; replace hpp := Lib.hid hpp; replace hp0 := Lib.hid hp0; replace hp1 := Lib.hid hp1; replace hpd := Lib.hid hpd
      unfold cntNode at hmx
      obtain ⟨e0, f0⟩ := M0.cell (off := j * 6) (t := 0) (by omega) rfl
      obtain ⟨e1, f1⟩ := M0.cell (off := j * 6 + 1) (t := 1) (by omega) rfl
      obtain ⟨e2, f2⟩ := M0.cell (off := j * 6 + 2) (t := 2) (by omega) rfl
      obtain ⟨e3, f3⟩ := M0.cell (off := j * 6 + 3) (t := 3) (by omega) rfl
      obtain ⟨e4, f4⟩ := M0.cell (off := j * 6 + 4) (t := 4) (by omega) rfl
      obtain ⟨e5, f5⟩ := M0.cell (off := j * 6 + 5) (t := 5) (by omega) rfl
      clear hown
      replace hrows := Lib.hid hrows; replace hbs := Lib.hid hbs; replace hp := Lib.hid hp; replace hx := Lib.hid hx; replace hks := Lib.hid hks; replace hle := Lib.hid hle; replace M0 := Lib.hid M0; replace hr := Lib.hid hr; replace hrl := Lib.hid hrl; replace hwf := Lib.hid hwf; replace hnd2 := Lib.hid hnd2; replace hpb := Lib.hid hpb; replace hgp := Lib.hid hgp; replace hgb := Lib.hid hgb; replace hpe := Lib.hid hpe; replace hpn := Lib.hid hpn
      go_wp2_with fail
      refine (markText_z (m + 3) _ (by omega) (by omega) _).mono ?_
      rintro e w2 ⟨rfl, hb2⟩
      have M1 := MidO.below (((M0.out.set (off := j * 6) (t := 0) (by omega) (by omega) (.int .i64 (m : Int))).set (off := j * 6 + 1) (t := 1) (by omega) (by omega) (.int .i64 ((m : Int) + 1))).set (off := j * 6 + 2) (t := 2) (by omega) (by omega) (.int .i64 ((m : Int) + 1 + 1))) hb2
      have K1 := ((((Kept.refl (fun b => b = g) wr).set (p := ⟨g, j * 6, none⟩) rfl (.int .i64 (m : Int))).set (p := ⟨g, j * 6 + 1, none⟩) rfl (.int .i64 ((m : Int) + 1))).set (p := ⟨g, j * 6 + 2, none⟩) rfl (.int .i64 ((m : Int) + 1 + 1))).trans (by simp [World.setCell]) (Kept.below hb2)
      have B1 := (((hw0.setCell (p := ⟨g, j * 6, none⟩) (by dsimp only; omega) (.int .i64 (m : Int))).setCell (p := ⟨g, j * 6 + 1, none⟩) (by dsimp only; omega) (.int .i64 ((m : Int) + 1))).setCell (p := ⟨g, j * 6 + 2, none⟩) (by dsimp only; omega) (.int .i64 ((m : Int) + 1 + 1))).trans (hb2.mono (by simp [World.setCell]; omega))
      have z1 := B1.size
      have gw1 := M1.lt
      obtain ⟨e3', f3'⟩ := M1.cell (off := j * 6 + 3) (t := 3) (by omega) rfl
      obtain ⟨e4', f4'⟩ := M1.cell (off := j * 6 + 4) (t := 4) (by omega) rfl
      have zz : wr.heap.size ≤ w2.heap.size := by have := hb2.size; simpa [World.setCell] using this
      clear hb2 e0 e1 e2 e3 e4 e5 f0 f1 f2 f3 f4 f5
      have M2 := M1.set (off := j * 6 + 3) (t := 3) (by omega) (by omega) (.string (markT (m + 3)))
      have K2 := K1.set (p := ⟨g, j * 6 + 3, none⟩) rfl (.string (markT (m + 3)))
      have B2 := B1.setCell (p := ⟨g, j * 6 + 3, none⟩) (by dsimp only; omega) (.string (markT (m + 3)))
      have z2 : (w2.setCell ⟨g, j * 6 + 3, none⟩ (.string (markT (m + 3)))).heap.size = w2.heap.size := by simp [World.setCell]
      have z2' : lo ≤ (w2.setCell ⟨g, j * 6 + 3, none⟩ (.string (markT (m + 3)))).heap.size := by rw [z2]; omega
      replace M2 := Lib.hid M2; replace K2 := Lib.hid K2; replace B2 := Lib.hid B2; replace M1 := Lib.hid M1; replace K1 := Lib.hid K1; replace z2 := Lib.hid z2
      go_wp2_with fail
      refine (markIntS_c u0 p0 (m + 4) lo _ (by omega) x.kids _ (s0.out.kept (flatO_ok flatInt) K2.out (fun b hb h => hgp.out (h ▸ hp0.out b hb))) hpd.out.1 (fun b hb => hlo.out b (hpb.out b (hp0.out b hb))) z2' (by omega) hl0).mono ?_
      rintro e w3 ⟨rfl, t0, hk3, hb3⟩
      have hz3 := hb3.size
      rw [z2.out] at hz3
      have M3 := M2.out.kept hk3 (fun h => hgp.out (hp0.out _ h))
      have s1' := (s1.out.kept GPat.ok K2.out (fun b hb h => hgp.out (h ▸ hp1.out b hb))).kept GPat.ok hk3 (fun b hb h => hpd.out.2.2 b h hb)
      obtain ⟨e5', f5'⟩ := M3.cell (off := j * 6 + 5) (t := 5) (by omega) rfl
      have gw3 := M3.lt
      have K3 := (kept_imp (S' := fun b => b = g ∨ b ∈ p) K2.out fun q h => .inl h).trans (by rw [z2.out]; exact zz) (kept_imp hk3 fun q h => .inr (hp0.out q h))
      have B3 := B2.out.trans hb3
      obtain ⟨m1, hm1⟩ : ∃ y, y = m + 4 + cntL cntInt x.kids := ⟨_, rfl⟩
      rw [← hm1]
      have hm1' : m1 ≤ 4611686018427387904 := by omega
      have hm2' : m1 + cntL cntPat x.pats ≤ 4611686018427387904 := by omega
      have z3 : lo ≤ w3.heap.size := by omega
      replace hm1 := Lib.hid hm1; replace M3 := Lib.hid M3; replace s1' := Lib.hid s1'; replace K3 := Lib.hid K3; replace B3 := Lib.hid B3; replace t0 := Lib.hid t0
      clear hb3 hk3 e3' e4' f3' f4'
      go_wp2_with fail
      refine (markPatS_c u1 p1 m1 lo _ rfl x.pats _ s1'.out hpd.out.2.1 (fun b hb => hlo.out b (hpb.out b (hp1.out b hb))) z3 hm2' hl1.out).mono ?_
      rintro e w4 ⟨rfl, t1, hk4, hb4⟩
      have hz4 := hb4.size
      have MF := M3.out.kept hk4 (fun h => hgp.out (hp1.out _ h))
      have t0' := t0.out.kept (flatO_ok flatInt) hk4 (fun b hb h => hpd.out.2.2 b hb h)
      have KF := K3.out.trans (show wr.heap.size ≤ w3.heap.size by omega) (kept_imp hk4 fun q h => .inr (hp1.out q h))
      have BF := B3.out.trans hb4
      replace MF := Lib.hid MF; replace KF := Lib.hid KF; replace t0' := Lib.hid t0'; replace t1 := Lib.hid t1
      obtain ⟨m2, hm2⟩ : ∃ y, y = m1 + cntL cntPat x.pats := ⟨_, rfl⟩
      rw [← hm2]
      replace hm2 := Lib.hid hm2
      clear hb4 hk4 e5' f5'
      go_wp2_with fail
      go_roundw
      case rel => exact ⟨m2, j + 1, by omega, by show _ = _; rw [hks.out, hm2.out, hm1.out, hm.out]; unfold cntNode; omega, by go_num, by go_num, .inr ⟨ps, (GrowO.mark GNode.ok (k := k) rfl hrows.out hx.out hp.out (hbs.out ▸ hnd.out) (r := [.int .i64 (m : Int), .int .i64 ((m : Int) + 1), .int .i64 ((m : Int) + 1 + 1), .string (markT (m + 3)), u0, u1]) rfl hn.out MF.out.own (by rw [← hm.out]; exact ⟨u0, p0, u1, p1, by simp [mkNode]; omega, hpp.out, ⟨by unfold mkNode I64; dsimp only; omega, by unfold mkNode I64; dsimp only; omega, by unfold mkNode I64; dsimp only; omega, markT_ok (n := m + 3) (by omega)⟩, t0'.out, by unfold mkNode; dsimp only; rw [← hm1.out]; exact t1.out⟩) KF.out), hbs.out⟩, BF, hK0.out.trans hz0 (kept_imp KF.out fun q h => by rcases h with h | h; (subst h; exact hgb.out); exact hpb.out q h)⟩
      case measure => simp [intOf]; omega
    · obtain rfl : j = n := by omega
      have e1 := hn.out
      have h2 := S.out
      have h3 := hm.out
      rw [List.take_of_length_le (by omega)] at h3
      rw [e1, markN_all, ← e1] at h2
      replace h2 := Lib.hid h2; replace h3 := Lib.hid h3
      clear e1
      go_wp2
      go_returns
      exact ⟨by rw [← h3.out]; rfl, h2.out, hK0.out, hw0⟩

set_option maxRecDepth 100000 in
set_option maxHeartbeats 4000000 in
theorem heldNodeS_c (v : Value) (k lo : Nat) (z : Int) (hz : z = (k : Int)) (xs : List GNode) (w : World) (S : Sl GNode.R 6 lo w v (markL mkNode cntNode k xs)) (hkn : k + cntL cntNode xs ≤ 4611686018427387904) (hlN : LenOkNode xs) :
    Calls Tryz.prog 31 #[v, .int .i64 z] w fun e w' => e = .returned (.int .i64 ((k + cntL cntNode xs : Nat) : Int)) ∧ Below w.heap.size w w' := by
  subst hz
  obtain ⟨a, c, rfl, l1, m1, hh⟩ := S
  obtain ⟨n, hn⟩ : ∃ n, n = xs.length := ⟨_, rfl⟩
  have X1 : Hid (n = (markL mkNode cntNode k xs).length) := by show _ = _; rw [markL_length]; exact hn
  rw [markL_length, ← hn] at l1 ⊢
  have hln : n ≤ 4611686018427387904 := by rw [hn]; unfold LenOkNode at hlN; omega
  replace hn := Lib.hid hn; replace hkn := Lib.hid hkn; replace hh := Lib.hid hh; replace hlN := Lib.hid hlN
  go_enter Tryz.func31, Tryz.ntmps31
  go_wp2_with fail
  go_loopw [1, 5] (fun kk i wr => ∃ m j : Nat, j ≤ n ∧ Hid (m = k + cntL cntNode (xs.take j)) ∧ kk = .int .i64 m ∧ i = .int .i64 j ∧ Below w.heap.size w wr) (fun _ i _ => n - (intOf i).toNat)
  case atStart => exact ⟨k, 0, by omega, by show _ = _; simp [cntL], rfl, rfl, Below.refl _ _⟩
  case round =>
    obtain ⟨m, j, hj, hm, rfl, rfl, hw0⟩ := hrel
    have hz0 := hw0.size
    by_cases hlt : j < n
    · obtain ⟨x, hx⟩ : ∃ x, xs[j]? = some x := ⟨_, List.getElem?_eq_getElem (by have := hn.out; omega)⟩
      have hks := cntL_take (cnt := cntNode) hx
      have hle := cntL_le cntNode xs (j + 1)
      have hmx : m + cntNode x ≤ 4611686018427387904 := by have := hkn.out; have := hm.out; omega
      obtain ⟨b1, o1, y, s1, _, rfl, P1, q1, r1⟩ := (hh.out.below GNode.good hw0).get X1 hlt
      obtain rfl : mkNode m x = y := by
        have h := P1.out
        rw [markL_get hx, ← hm.out] at h
        exact Option.some.inj h
      obtain ⟨u0, u1, rfl, -, a0, a1⟩ := q1
      obtain ⟨hl0, hl1⟩ := hlN.out.2 x (List.mem_of_getElem? hx)
      replace hl1 := Lib.hid hl1
      unfold cntNode at hmx
      have e0 : wr.cell? ⟨b1, o1 + j * 6, none⟩ = some (.int .i64 (m : Int)) := by simpa [mkNode] using r1 0 _ rfl
      have e1 : wr.cell? ⟨b1, o1 + j * 6 + 1, none⟩ = some (.int .i64 ((m : Int) + 1)) := by simpa [mkNode] using r1 1 _ rfl
      have e2 : wr.cell? ⟨b1, o1 + j * 6 + 2, none⟩ = some (.int .i64 ((m : Int) + 1 + 1)) := (r1 2 _ rfl).trans (by show some (Value.int .i64 _) = some (Value.int .i64 _); congr 2)
      have e3 : ∀ z : Ext wr, z.val.cell? ⟨b1, o1 + j * 6 + 3, none⟩ = some (.string (markT (m + 3))) := fun z => cell_below z.property (by simpa [mkNode] using r1 3 _ rfl)
      have e4 : wr.cell? ⟨b1, o1 + j * 6 + 4, none⟩ = some u0 := by simpa [mkNode] using r1 4 _ rfl
      have e5 : wr.cell? ⟨b1, o1 + j * 6 + 5, none⟩ = some u1 := by simpa [mkNode] using r1 5 _ rfl
      have a0' : Sl IntR 1 lo wr u0 (markL mkInt cntInt (m + 4) x.kids) := a0
      have a1' : Sl GPat.R 1 lo wr u1 (markL mkPat cntPat (m + 4 + cntL cntInt x.kids) x.pats) := a1
      clear a0 a1
      replace e4 := Lib.hid e4; replace e5 := Lib.hid e5; replace a0' := Lib.hid a0'; replace a1' := Lib.hid a1'
      clear r1 P1
      replace hx := Lib.hid hx; replace hks := Lib.hid hks; replace hle := Lib.hid hle
      have ct := fun W => markText_z (m + 3) ((m : Int) + 1 + 1 + 1) (by omega) (by omega) W
      generalize markT (m + 3) = st at *
      go_wp2_with fail
      refine wp_region_ext_lit (by kernel_rfl) (by kernel_rfl) ?_
      repeat (go_big_quiet_step ((go_at_call 59; exact Calls.ext (ct _))))
      refine wpQuiet_nil ?_
      rintro w1 ⟨⟨_, hb⟩, rfl⟩
      have hw1 := hw0.trans (hb.mono hz0)
      have hz1 := hw1.size
      have e4w : w1.cell? ⟨b1, o1 + j * 6 + 4, none⟩ = some u0 := cell_below hb e4.out
      have e5w : w1.cell? ⟨b1, o1 + j * 6 + 5, none⟩ = some u1 := cell_below hb e5.out
      have a0w := a0'.out.below IntR.good hb
      have a1w := a1'.out.below GPat.good hb
      clear e0 e1 e2 ct hb hw0 e4 e5 a0' a1'
      replace a0w := Lib.hid a0w; replace a1w := Lib.hid a1w; replace e5w := Lib.hid e5w
      go_wp2_with fail
      refine (heldIntS_c u0 (m + 4) lo _ (by omega) x.kids _ a0w.out (by omega) hl0).mono ?_
      rintro e w2 ⟨rfl, hb2⟩
      have hw2 := hw1.trans (hb2.mono hz1)
      have hz2 := hw2.size
      have e5v := cell_below hb2 e5w.out
      have a1v := a1w.out.below GPat.good hb2
      obtain ⟨m1, hm1⟩ : ∃ y, y = m + 4 + cntL cntInt x.kids := ⟨_, rfl⟩
      rw [← hm1] at a1v ⊢
      have hm2' : m1 + cntL cntPat x.pats ≤ 4611686018427387904 := by omega
      replace hm1 := Lib.hid hm1; replace a1v := Lib.hid a1v
      clear e4w e5w a0w a1w hb2 hw1
      go_wp2_with fail
      refine (heldPatS_c u1 m1 lo _ rfl x.pats _ a1v.out hm2' hl1.out).mono ?_
      rintro e w3 ⟨rfl, hb3⟩
      obtain ⟨m2, hm2⟩ : ∃ y, y = m1 + cntL cntPat x.pats := ⟨_, rfl⟩
      rw [← hm2]
      replace hm2 := Lib.hid hm2
      clear e5v
      go_wp2_with fail
      go_roundw
      case rel => exact ⟨m2, j + 1, by omega, by show _ = _; rw [hks.out, hm2.out, hm1.out, hm.out]; unfold cntNode; omega, by go_num, by go_num, hw2.trans (hb3.mono hz2)⟩
      case measure => simp [intOf]; omega
    · obtain rfl : j = n := by omega
      have h3 := hm.out
      rw [List.take_of_length_le (by have := hn.out; omega)] at h3
      replace h3 := Lib.hid h3
      go_wp2
      go_returns
      exact ⟨by rw [← h3.out]; rfl, hw0⟩

end Go.Proofs.YtnmmfcnkpcigoaaGreat

/- A program without types that the call owns: marks. -/
namespace Go.Proofs.YtnmmfcnkpcigoaaGreat
open Go.RowKit
set_option linter.unusedVariables false
set_option linter.unusedSimpArgs false
attribute [local go_sem] Ext.cell

set_option maxRecDepth 100000 in
set_option maxHeartbeats 4000000 in
theorem markTypeS_nil (a : Option Addr) (c : Nat) (k : Int) (w : World) : Calls Tryz.prog 28 #[.slice a 0 c, .int .i64 k] w fun e w' => e = .returned (.int .i64 k) ∧ Below w.heap.size w w' := by
  go_enter Tryz.func28, Tryz.ntmps28
  go_wp2_with fail
  go_loopw [1, 5] (fun kk ii wr => kk = .int .i64 k ∧ ii = .int .i64 0 ∧ Below w.heap.size w wr) (fun _ _ _ => 0)
  case atStart => exact ⟨rfl, rfl, by go_grown⟩
  case round =>
    obtain ⟨rfl, rfl, hw0⟩ := hrel
    go_wp2_with fail
    go_returns
    exact ⟨rfl, hw0⟩
set_option maxRecDepth 100000 in
set_option maxHeartbeats 4000000 in
theorem heldTypeS_nil (a : Option Addr) (c : Nat) (k : Int) (w : World) : Calls Tryz.prog 30 #[.slice a 0 c, .int .i64 k] w fun e w' => e = .returned (.int .i64 k) ∧ Below w.heap.size w w' := by
  go_enter Tryz.func30, Tryz.ntmps30
  go_wp2_with fail
  go_loopw [1, 5] (fun kk ii wr => kk = .int .i64 k ∧ ii = .int .i64 0 ∧ Below w.heap.size w wr) (fun _ _ _ => 0)
  case atStart => exact ⟨rfl, rfl, by go_grown⟩
  case round =>
    obtain ⟨rfl, rfl, hw0⟩ := hrel
    go_wp2_with fail
    go_returns
    exact ⟨rfl, hw0⟩

set_option maxRecDepth 100000 in
set_option maxHeartbeats 4000000 in
theorem markProg_c (a : Option Addr) (v : Value) (bs : List Nat) (k lo : Nat) (z : Int) (hz : z = (k : Int)) (xs : List GNode) (w : World) (S : SlO 47 6 GNode.O bs w v xs) (hnd : bs.Nodup) (hlo : ∀ b ∈ bs, lo ≤ b) (hlw : lo ≤ w.heap.size) (hkn : k + cntL cntNode xs ≤ 4611686018427387904) (hlN : LenOkNode xs) :
    Calls Tryz.prog 11 #[.agg #[.slice a 0 0, v], .int .i64 z] w fun e w' => e = .returned (.int .i64 ((k + cntL cntNode xs : Nat) : Int)) ∧ SlO 47 6 GNode.O bs w' v (markL mkNode cntNode k xs) ∧ Kept (· ∈ bs) w w' ∧ Below lo w w' := by
  subst hz
  obtain ⟨a0, c0, rfl⟩ := S.form
  have cM := fun W (hW : Below w.heap.size w W) => markNodeS_c _ bs k lo _ rfl xs W (S.below GNode.ok hW) hnd hlo (Nat.le_trans hlw hW.size) hkn hlN
  generalize xs.length = n at *
  replace cM := Lib.hid cM
  clear hlN
  go_enter Tryz.func11, Tryz.ntmps11
  go_upto_region 1 with fail
  have C : RowAt (w.alloc (.cells #[.slice a 0 0, .slice a0 n c0] 29)) (w.heap.size) 0 [.slice a 0 0, .slice a0 n c0] := RowAt.box w #[.slice a 0 0, .slice a0 n c0] 29
  have hw : Below w.heap.size w (w.alloc (.cells #[.slice a 0 0, .slice a0 n c0] 29)) := by go_grown
  generalize (w.alloc (.cells #[.slice a 0 0, .slice a0 n c0] 29)) = w0 at *
  obtain ⟨c_0, c_1⟩ := C.box2; have hsC := World.block_lt_of_cell? _ _ c_0; dsimp only at hsC
  go_upto_region 2 with (go_at_call 28; ((with_reducible refine (markTypeS_nil _ _ _ _).mono ?_); rintro e w1 ⟨rfl, hb⟩; have hw := hw.trans (hb.mono hw.size); have C := C.below hb; obtain ⟨c_0, c_1⟩ := C.box2; have hsC := World.block_lt_of_cell? _ _ c_0; dsimp only at hsC; clear hb))
  go_wp2_with fail
  refine (cM.out _ hw).mono ?_
  rintro e w2 ⟨rfl, q0, hK2, hb2⟩
  have hz1 := hw.size
  have KF : Kept (· ∈ bs) w w2 := fun b h1 h2 => by rw [hK2 b (by omega) h2, hw.block b h1]
  have BF : Below lo w w2 := (hw.mono hlw).trans hb2
  clear c_0 c_1 hsC C hK2 hb2 hw
  go_wp2_with fail
  go_returns
  exact ⟨rfl, q0, KF, BF⟩
set_option maxRecDepth 100000 in
set_option maxHeartbeats 4000000 in
theorem heldProg_c (a : Option Addr) (v : Value) (k lo : Nat) (z : Int) (hz : z = (k : Int)) (xs : List GNode) (w : World) (S : Sl GNode.R 6 lo w v (markL mkNode cntNode k xs)) (hkn : k + cntL cntNode xs ≤ 4611686018427387904) (hlN : LenOkNode xs) :
    Calls Tryz.prog 12 #[.agg #[.slice a 0 0, v], .int .i64 z] w fun e w' => e = .returned (.int .i64 ((k + cntL cntNode xs : Nat) : Int)) ∧ Below w.heap.size w w' := by
  subst hz
  obtain ⟨a0, c0, rfl⟩ := S.form
  rw [markL_length] at S ⊢
  have cM := fun W (hW : Below w.heap.size w W) => heldNodeS_c _ k lo _ rfl xs W (S.below GNode.good hW) hkn hlN
  generalize xs.length = n at *
  obtain ⟨m1, hm1⟩ : ∃ y, y = k + cntL cntNode xs := ⟨_, rfl⟩
  rw [← hm1] at cM ⊢
  replace cM := Lib.hid cM; replace hm1 := Lib.hid hm1
  clear hlN S
  go_enter Tryz.func12, Tryz.ntmps12
  go_upto_region 1 with fail
  have C : RowAt (w.alloc (.cells #[.slice a 0 0, .slice a0 n c0] 29)) (w.heap.size) 0 [.slice a 0 0, .slice a0 n c0] := RowAt.box w #[.slice a 0 0, .slice a0 n c0] 29
  have hw : Below w.heap.size w (w.alloc (.cells #[.slice a 0 0, .slice a0 n c0] 29)) := by go_grown
  generalize (w.alloc (.cells #[.slice a 0 0, .slice a0 n c0] 29)) = w0 at *
  obtain ⟨c_0, c_1⟩ := C.box2; have hsC := World.block_lt_of_cell? _ _ c_0; dsimp only at hsC
  go_upto_region 4 with (go_at_call 30; ((with_reducible refine (heldTypeS_nil _ _ _ _).mono ?_); rintro e w1 ⟨rfl, hb⟩; have hw := hw.trans (hb.mono hw.size); have C := C.below hb; obtain ⟨c_0, c_1⟩ := C.box2; have hsC := World.block_lt_of_cell? _ _ c_0; dsimp only at hsC; clear hb))
  go_wp2_with fail
  refine (cM.out _ hw).mono ?_
  rintro e w2 ⟨rfl, hb2⟩
  have hw2 := hw.trans (hb2.mono hw.size)
  clear c_0 c_1 hsC C hb2 hw
  go_wp2_with fail
  go_returns
  exact ⟨rfl, hw2⟩
end Go.Proofs.YtnmmfcnkpcigoaaGreat
