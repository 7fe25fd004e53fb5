/- Parts of the proof, merged: Cnt2, Cnt3, Gr2, InsOk. -/
import Derived.Deep.RegionHeld3
import Derived.Deep.RegionLaw
import Derived.Test.YtaimekaagmcmnaaGreatNe27
/- The program's binds. -/
namespace Go.Proofs.YtaimekaagmcmnaaGreat
open Go.RowKit
set_option linter.unusedVariables false
set_option linter.unusedSimpArgs false
attribute [local go_sem] Ext.cell

def bindsP (kd : Int) (s : ByteArray) (ps : List GPat) (i : Nat) (name : ByteArray) : Bool :=
  if kd = 5 ∨ kd = 8 then eqS s name else if kd = 7 ∨ kd = 15 then decide (i = 1) && eqS s name
  else if kd = 13 then decide (0 < i) && anyS (pnames (ps[i - 1]?.getD ⟨[]⟩)) name else false
set_option maxRecDepth 100000 in
set_option maxHeartbeats 8000000 in
theorem binds_c {b m kc pm pc : Nat} {ka pa : Option Addr} {w : World} {kd at_ nn : Int} {s : ByteArray} {ps : List GPat} (hr : RowAt w b 0 [.int .i64 kd, .int .i64 at_, .int .i64 nn, .string s, .slice ka m kc, .slice pa pm pc]) (hp : Sl GPat.R 1 0 w (.slice pa pm pc) ps) (hq : ∀ q ∈ ps, q.nodes.length ≤ 600) (i : Nat) (hi : kd = 13 → i ≤ ps.length) (hi2 : i ≤ 600) (name : ByteArray) :
    Calls Tryz.prog 121 #[.pointer (some ⟨b, 0, none⟩), .int .i64 (i : Int), .string name] w fun e w' => e = .returned (.bool (bindsP kd s ps i name)) ∧ Below w.heap.size w w' := by
  obtain ⟨r_0, r_1, r_2, r_3, r_4, r_5⟩ := hr.box6
  have hbl := World.block_lt_of_cell? _ _ r_0; dsimp only at hbl
  have c1 : (s.toList == name.toList) = eqS s name := eqS_list s name
  have hB : bindsP kd s ps i name = if kd = 5 ∨ kd = 8 then eqS s name else if kd = 7 ∨ kd = 15 then decide (i = 1) && eqS s name
    else if kd = 13 then decide (0 < i) && anyS (pnames (ps[i - 1]?.getD ⟨[]⟩)) name else false := rfl
  generalize bindsP kd s ps i name = res at *
  generalize eqS s name = q at *
  by_cases k5 : kd = 5
  · subst k5
    rw [if_pos (.inl rfl)] at hB
    subst hB
    clear hp hq hi
    go_enter Tryz.func121, Tryz.ntmps121
    go_wp2_with fail
    go_returns
    exact ⟨rfl, by go_grown⟩
  have d5 : (kd == 5) = false := beq_eq_false_iff_ne.2 k5
  by_cases k8 : kd = 8
  · subst k8
    rw [if_pos (.inr rfl)] at hB
    subst hB
    clear hp hq hi
    go_enter Tryz.func121, Tryz.ntmps121
    go_wp2_with fail
    go_returns
    exact ⟨rfl, by go_grown⟩
  have d8 : (kd == 8) = false := beq_eq_false_iff_ne.2 k8
  rw [if_neg (by omega)] at hB
  by_cases k7 : kd = 7 ∨ kd = 15
  · rw [if_pos k7] at hB
    have hres : res = (decide (i = 1) && q) := hB
    clear hB hp hq hi
    by_cases i1 : i = 1
    · subst i1
      have hres2 : res = q := by rw [hres]; simp
      subst hres2
      clear hres
      rcases k7 with rfl | rfl
      · go_enter Tryz.func121, Tryz.ntmps121
        go_wp2_with fail
        go_returns
        exact ⟨rfl, by go_grown⟩
      · go_enter Tryz.func121, Tryz.ntmps121
        go_wp2_with fail
        go_returns
        exact ⟨rfl, by go_grown⟩
    · have hres2 : res = false := by rw [hres]; simp [i1]
      subst hres2
      clear hres
      have di : ((i : Int) == 1) = false := beq_eq_false_iff_ne.2 (by omega)
      have di2 : (i == 1) = false := beq_eq_false_iff_ne.2 i1
      rcases k7 with rfl | rfl
      · go_enter Tryz.func121, Tryz.ntmps121
        go_wp2_with fail
        go_returns
        exact ⟨rfl, by go_grown⟩
      · go_enter Tryz.func121, Tryz.ntmps121
        go_wp2_with fail
        go_returns
        exact ⟨rfl, by go_grown⟩
  have d7 : (kd == 7) = false := beq_eq_false_iff_ne.2 (by omega)
  have d15 : (kd == 15) = false := beq_eq_false_iff_ne.2 (by omega)
  rw [if_neg k7] at hB
  by_cases k13 : kd = 13
  · subst k13
    rw [if_pos rfl] at hB
    have hres : res = (decide (0 < i) && anyS (pnames (ps[i - 1]?.getD ⟨[]⟩)) name) := hB
    clear hB
    by_cases i0 : i = 0
    · have hres2 : res = false := by rw [hres]; simp [i0]
      subst hres2
      subst i0
      clear hres hp hq hi
      go_enter Tryz.func121, Tryz.ntmps121
      go_wp2_with fail
      go_returns
      exact ⟨rfl, by go_grown⟩
    · obtain ⟨j, rfl⟩ : ∃ j, i = j + 1 := ⟨i - 1, by omega⟩
      have hil := hi rfl
      have di : decide ((0 : Int) < ((j + 1 : Nat) : Int)) = true := decide_eq_true (by omega)
      have di3 : decide ((0 : Int) < (j : Int) + 1) = true := decide_eq_true (by omega)
      have di2 : decide (0 < j + 1) = true := decide_eq_true (by omega)
      have hpl : pm = ps.length := by obtain ⟨a, c, hv, _⟩ := hp; injection hv
      obtain ⟨pa', pc', hv, pl, pm', h0⟩ := hp
      obtain ⟨rfl, rfl⟩ : pa = pa' ∧ pc = pc' := by injection hv with e1 e2 e3; exact ⟨e1, e3⟩
      obtain ⟨b1, o1, x, r, _, rfl, P1, hx, r1⟩ := h0.get (k := j) (n := pm) (Lib.hid hpl) (by omega)
      have hx' := P1.out
      have hxs := hq x (List.mem_of_getElem? hx')
      rw [show j + 1 - 1 = j by omega, hx', Option.getD_some] at hres
      have hres2 : res = anyS (pnames x) name := by rw [hres]; simp
      clear hres h0 hq hi P1 hx'
      have cP := fun W (hW : Below w.heap.size w W) => patNames_c x hxs r 0 W (GPat.good.below hx hW)
      obtain ⟨v0, rfl, _, hx0⟩ := hx
      obtain ⟨xa, xc, rfl⟩ := hx0.form
      generalize x.nodes.length = xn at *
      have f_0 : w.cell? ⟨b1, o1 + j, none⟩ = some (.slice xa xn xc) := by simpa using r1 0 _ rfl
      have hbb1 := World.block_lt_of_cell? _ _ f_0; dsimp only at hbb1
      generalize hns : pnames x = ns at *
      have cN := fun W v lo (h : OwnF 9 1 strRow StrOk lo W v ns) => containsS_c ns name _ _ _ (h.sl flatStr)
      rw [show (ns.any fun y => name.toList == y.toList) = anyS ns name from anyS_list ns name, ← hres2] at cN
      clear hx0 r1 hns hres2
      have cP' : ∀ W (hW : Below w.heap.size w W), Calls Tryz.prog 147 #[.agg #[.slice xa xn xc]] W fun e w' => ∃ v, e = .returned v ∧ OwnF 9 1 strRow StrOk W.heap.size w' v ns ∧ Below W.heap.size W w' := cP
      replace cP' := Lib.hid cP'; replace cN := Lib.hid cN
      clear cP
      have hj1 : ((j + 1 : Nat) : Int) = (j : Int) + 1 := by omega
      rw [hj1]
      have hj2 : (j : Int) + 1 - 1 = (j : Int) := by omega
      have hj3 : IntKind.i64.wrap ((j : Int) + 1 - 1) = (j : Int) := by rw [hj2]; exact IntWalk.i64_in _ (by omega)
      have hjl : j < pm := by omega
      go_enter Tryz.func121, Tryz.ntmps121
      go_wp2_with (first
        | (go_at_call 147; (with_reducible refine (cP'.out _ (by go_grown)).mono ?_); rintro e w1 ⟨v1, rfl, O1, hb1⟩)
        | (go_at_call 50; (with_reducible refine (cN.out _ _ _ O1).mono ?_); rintro e w2 ⟨rfl, hb2⟩))
      go_returns
      exact ⟨rfl, hb1.trans (hb2.mono hb1.size)⟩
  · have d13 : (kd == 13) = false := beq_eq_false_iff_ne.2 k13
    rw [if_neg k13] at hB
    subst hB
    clear hp hq hi
    go_enter Tryz.func121, Tryz.ntmps121
    go_wp2_with fail
    go_returns
    exact ⟨rfl, by go_grown⟩
end Go.Proofs.YtaimekaagmcmnaaGreat

/- The program's count: how many free variables of a name an expression has. -/
namespace Go.Proofs.YtaimekaagmcmnaaGreat
open Go.RowKit
set_option linter.unusedVariables false
set_option linter.unusedSimpArgs false
attribute [local go_sem] Ext.cell

mutual
def countE (name : ByteArray) : ExT → Nat
  | .mk kd _ _ s ks ps => if kd = 3 then (if eqS s name then 1 else 0) else countKs name kd s ps 0 ks
def countKs (name : ByteArray) (kd : Int) (s : ByteArray) (ps : List GPat) : Nat → List ExT → Nat
  | _, [] => 0
  | i, k :: ks => (if bindsP kd s ps i name then 0 else countE name k) + countKs name kd s ps (i + 1) ks
end
mutual
def okE : ExT → Bool
  | .mk kd _ _ _ ks ps => (decide (kd = 13 → ks.length ≤ ps.length + 1) && ps.all fun q => decide (q.nodes.length ≤ 600)) && okEs ks
def okEs : List ExT → Bool
  | [] => true
  | k :: ks => okE k && okEs ks
end
theorem countE_mk (name : ByteArray) (kd a n : Int) (s : ByteArray) (ks : List ExT) (ps : List GPat) : countE name (.mk kd a n s ks ps) = if kd = 3 then (if eqS s name then 1 else 0) else countKs name kd s ps 0 ks := by rw [countE]
theorem countKs_snoc {name : ByteArray} {kd : Int} {s : ByteArray} {ps : List GPat} : ∀ (l : List ExT) (k : ExT) (i : Nat), countKs name kd s ps i (l ++ [k]) = countKs name kd s ps i l + (if bindsP kd s ps (i + l.length) name then 0 else countE name k)
  | [], k, i => by simp [countKs]
  | c :: l, k, i => by
    rw [List.cons_append, countKs, countKs_snoc l k (i + 1), countKs, List.length_cons, show i + 1 + l.length = i + (l.length + 1) by omega]
    omega
mutual
theorem countE_le (name : ByteArray) : ∀ t : ExT, countE name t ≤ szE t
  | .mk kd a n s ks ps => by
    rw [countE_mk, szE_mk]
    split
    · split <;> omega
    · have := countKs_le name kd s ps ks 0
      omega
theorem countKs_le (name : ByteArray) (kd : Int) (s : ByteArray) (ps : List GPat) : ∀ (ks : List ExT) (i : Nat), countKs name kd s ps i ks ≤ szEs ks
  | [], i => by rw [countKs]; omega
  | k :: ks, i => by
    rw [countKs, szEs]
    have h1 := countE_le name k
    have h2 := countKs_le name kd s ps ks (i + 1)
    split <;> omega
end
theorem okEs_get : ∀ {l : List ExT} {j : Nat} {k : ExT}, okEs l = true → l[j]? = some k → okE k = true
  | [], j, k, _, h => by simp at h
  | c :: l, 0, k, h, hk => by
    rw [okEs, Bool.and_eq_true] at h
    simp at hk; subst hk; exact h.1
  | c :: l, j + 1, k, h, hk => by
    rw [okEs, Bool.and_eq_true] at h
    exact okEs_get h.2 (by simpa using hk)
theorem szEs_mem2 : ∀ {l : List ExT} {j : Nat} {k : ExT}, l[j]? = some k → szE k ≤ szEs l
  | [], j, k, h => by simp at h
  | c :: l, 0, k, hk => by simp at hk; subst hk; rw [szEs]; omega
  | c :: l, j + 1, k, hk => by rw [szEs]; have := szEs_mem2 (l := l) (j := j) (by simpa using hk); omega

set_option maxRecDepth 100000 in
set_option maxHeartbeats 8000000 in
theorem count_c (name : ByteArray) : ∀ (f : Nat) (t : ExT) (A : Nat → Prop) (pv : Value) (w : World), ExR f A w pv t → okE t = true → szE t ≤ 600 →
    Calls Tryz.prog 91 #[pv, .string name] w fun e w' => e = .returned (.int .i64 (countE name t : Int)) ∧ Below w.heap.size w w'
  | 0, t, A, pv, w, h, _, _ => absurd h (by simp [ExR])
  | f + 1, t, A, pv, w, h, hok, hsz => by
    have ih := count_c name f
    obtain ⟨b, ka, kc, qv, bs, rfl, hAb, hwf, hps, hr, hq, hqb, kl, km, hk⟩ := h
    obtain ⟨kd, at_, nn, s, ks, ps⟩ := t
    simp only [ExT.kind, ExT.at_, ExT.n, ExT.s, ExT.kids, ExT.pats] at *
    obtain ⟨qa, qc, rfl⟩ := hq.form
    rw [okE, Bool.and_eq_true, Bool.and_eq_true] at hok
    obtain ⟨⟨ok1, ok2⟩, ok3⟩ := hok
    have ok1 := of_decide_eq_true ok1
    have ok2 : ∀ q ∈ ps, q.nodes.length ≤ 600 := fun q hq => of_decide_eq_true (List.all_eq_true.1 ok2 q hq)
    have hcnt := countE_mk name kd at_ nn s ks ps
    rw [szE_mk] at hsz
    have hle := fun j => countKs_le name kd s ps (ks.take j) 0
    obtain ⟨m, hm⟩ : ∃ m, m = ks.length := ⟨_, rfl⟩
    obtain ⟨qm, hqm⟩ : ∃ m, m = ps.length := ⟨_, rfl⟩
    rw [← hm] at kl hk hr
    rw [← hqm] at hr
    have hpsl : Sl GPat.R 1 0 w (.slice qa qm qc) ps := by have := hq.sl (lo := 0) GPat.ok (fun _ _ => Nat.zero_le _); rw [← hqm] at this; exact this
    have hml : m ≤ szEs ks := by rw [hm]; exact len_szEs ks
    have c1 : (s.toList == name.toList) = eqS s name := eqS_list s name
    have cB := fun W (hW : Below w.heap.size w W) (i : Nat) (hi : kd = 13 → i ≤ ps.length) (hi2 : i ≤ 600) => binds_c (hr.below hW) (hpsl.below GPat.good hW) ok2 i hi hi2 name
    obtain ⟨r_0, r_1, r_2, r_3, r_4, r_5⟩ := hr.box6
    have hbl := World.block_lt_of_cell? _ _ r_0; dsimp only at hbl
    generalize countE name (.mk kd at_ nn s ks ps) = res at *
    by_cases k3 : kd = 3
    · subst k3
      rw [if_pos rfl] at hcnt
      generalize eqS s name = q at *
      clear cB hk hpsl hq hqb ih hle ok1 ok2 ok3 hm hqm hr hps
      go_enter Tryz.func91, Tryz.ntmps91
      cases q
      · obtain rfl : res = 0 := hcnt
        go_wp2_with fail
        go_returns
        exact ⟨rfl, by go_grown⟩
      · obtain rfl : res = 1 := hcnt
        go_wp2_with fail
        go_returns
        exact ⟨rfl, by go_grown⟩
    have d3 : (kd == 3) = false := beq_eq_false_iff_ne.2 k3
    rw [if_neg k3] at hcnt
    clear c1 hpsl hq hqb hps
    replace hm := Lib.hid hm; replace hqm := Lib.hid hqm; replace ih := Lib.hid ih; replace hk := Lib.hid hk; replace cB := Lib.hid cB; replace ok1 := Lib.hid ok1; replace ok2 := Lib.hid ok2; replace ok3 := Lib.hid ok3; replace hcnt := Lib.hid hcnt; replace hle := Lib.hid hle; replace hr := Lib.hid hr
    go_enter Tryz.func91, Tryz.ntmps91
    go_wp2_with fail
    go_loopw [5, 24] (fun cc ii wr => ∃ j : Nat, j ≤ m ∧ cc = .int .i64 (countKs name kd s ps 0 (ks.take j) : Int) ∧ ii = .int .i64 j ∧ Below w.heap.size w wr) (fun _ ii _ => m - (intOf ii).toNat)
    case atStart => exact ⟨0, by omega, by simp [countKs], rfl, Below.refl _ _⟩
    case round =>
      obtain ⟨j, hj, rfl, rfl, hw⟩ := hrel
      have hsz1 := hw.size
      have hcl := hle.out j
      have hst := szEs_take ks j
      by_cases hjm : j < m
      · obtain ⟨g1, o1, rfl, hA1, hkk⟩ := hk.out (by omega)
        obtain ⟨k, hkj⟩ : ∃ k, ks[j]? = some k := ⟨_, List.getElem?_eq_getElem (by have := hm.out; omega)⟩
        obtain ⟨p, hp, hP⟩ := hkk j k hkj
        have htk : ks.take (j + 1) = ks.take j ++ [k] := by rw [List.take_add_one, hkj]; rfl
        have hlt : (ks.take j).length = j := by rw [List.length_take]; have := hm.out; omega
        have hsn := countKs_snoc (name := name) (kd := kd) (s := s) (ps := ps) (ks.take j) k 0
        rw [← htk, hlt, Nat.zero_add] at hsn
        have hkl := countE_le name k
        have hks := szEs_mem2 hkj
        have hnext := hle.out (j + 1)
        have hst2 := szEs_take ks (j + 1)
        have e_0 : wr.cell? ⟨g1, o1 + j, none⟩ = some p := cell_below hw hp
        have hbg1 : g1 < wr.heap.size := World.block_lt_of_cell? _ _ e_0
        have hP' := fun W (hW : Below w.heap.size w W) => hP.below hW
        obtain ⟨qb, rfl⟩ := hP.form
        have hc := fun W hW => ih.out k _ _ W (hP' W hW) (okEs_get ok3.out hkj) (by omega)
        have cb := cB.out wr hw j (fun h => by have := ok1.out h; have := hm.out; omega) (by omega)
        generalize bindsP kd s ps j name = bb at *
        generalize hc0 : countKs name kd s ps 0 (ks.take j) = c0 at *
        generalize hc1 : countKs name kd s ps 0 (ks.take (j + 1)) = c1 at *
        generalize countE name k = ck at *
        have hbr := hr.out.below hw
        obtain ⟨t_0, t_1, t_2, t_3, t_4, t_5⟩ := hbr.box6
        have hblr := World.block_lt_of_cell? _ _ t_0; dsimp only at hblr
        clear hkk hP hP' hp hbr
        replace hc := Lib.hid hc; replace cb := Lib.hid cb; replace hsn := Lib.hid hsn; replace htk := Lib.hid htk; replace hlt := Lib.hid hlt; replace hc0 := Lib.hid hc0; replace hc1 := Lib.hid hc1; replace hkj := Lib.hid hkj
        cases bb
        · have hs2 := hsn.out
          rw [if_neg (by simp)] at hs2
          have hs3 : (c1 : Int) = (c0 : Int) + (ck : Int) := by omega
          replace hs3 := Lib.hid hs3
          clear hs2
          go_wp2_with (first
            | (go_at_call 121; (with_reducible refine (cb.out).mono ?_); rintro e w1 ⟨rfl, hb1⟩; have hw1 := hw.trans (hb1.mono hsz1))
            | (go_at_call 91; (with_reducible refine (hc.out _ hw1).mono ?_); rintro e w2 ⟨rfl, hb2⟩))
          go_roundw
          case rel => exact ⟨j + 1, by omega, by rw [hc1.out, hs3.out], by go_num, hw1.trans (hb2.mono hw1.size)⟩
          case measure => simp [intOf]; omega
        · have hs2 := hsn.out
          rw [if_pos rfl, Nat.add_zero] at hs2
          replace hs2 := Lib.hid hs2
          go_wp2_with (go_at_call 121; (with_reducible refine (cb.out).mono ?_); rintro e w1 ⟨rfl, hb1⟩)
          go_roundw
          case rel => exact ⟨j + 1, by omega, by rw [hc1.out, hs2.out], by go_num, hw.trans (hb1.mono hsz1)⟩
          case measure => simp [intOf]; omega
      · obtain rfl : j = m := by omega
        have hfull : ks.take j = ks := List.take_of_length_le (by have := hm.out; omega)
        rw [hfull]
        have hr2 : (res : Int) = (countKs name kd s ps 0 ks : Int) := by rw [hcnt.out]
        replace hr2 := Lib.hid hr2
        generalize countKs name kd s ps 0 ks = cc at *
        go_wp2_with fail
        go_returns
        exact ⟨by rw [hr2.out]; rfl, hw⟩
end Go.Proofs.YtaimekaagmcmnaaGreat

/- The program's grow. -/
namespace Go.Proofs.YtaimekaagmcmnaaGreat
open Go.RowKit
set_option linter.unusedVariables false
set_option linter.unusedSimpArgs false
attribute [local go_sem] Ext.cell

theorem info_exG : (Tryz.prog.info? 127).map (fun i => (i.zero, i.size, i.bytes)) = some (some (.pointer none), 1, 8) := by kernel_rfl
def GrPost (t : ExT) (w : World) (e : Ending) (w' : World) : Prop := ∃ q F, e = .returned (.pointer (some ⟨q, 0, none⟩)) ∧ ExR F (fun g => w.heap.size ≤ g) w' (.pointer (some ⟨q, 0, none⟩)) t ∧ Below w.heap.size w w'
theorem szEs_mem {l : List ExT} {j : Nat} {k : ExT} (h : l[j]? = some k) : szE k ≤ szEs l := by
  have := list_mid h
  rw [this, szEs_append, szEs]
  omega

set_option maxRecDepth 100000 in
set_option maxHeartbeats 16000000 in
theorem grow_c (N : List GNode) (hN : N.length ≤ 600) (hP : ∀ x ∈ N, PatsSm x.pats) : ∀ (f : Nat) (t : ExT) (a : Nat) (nv : Value) (lo : Nat) (w : World), szE t ≤ f → Laid N a t → Sl GNode.R 6 lo w nv N → Calls Tryz.prog 90 #[nv, .int .i64 (a : Int)] w (GrPost t w)
  | 0, t, a, nv, lo, w, hf, _, _ => by have := szE_pos t; omega
  | f + 1, t, a, nv, lo, w, hf, hL, hr => by
    have ih := grow_c N hN hP f
    obtain ⟨kd, at_, nn, s, ks, ps⟩ := t
    rw [szE_mk] at hf
    have hx := hL.head
    have hkid := fun j k (h : ks[j]? = some k) => hL.kid h
    have hak : a < N.length := (List.getElem?_eq_some_iff.1 hx).1
    obtain ⟨hps1, hps2⟩ := hP _ (List.mem_of_getElem? hx)
    dsimp only at hps1 hps2
    have hnv := hr
    obtain ⟨na, nc, rfl, ul, um, h0⟩ := hr
    obtain ⟨b1, o1, x, r, _, rfl, P1, hR, r1⟩ := h0.get (Lib.hid rfl) hak
    obtain rfl : (⟨kd, at_, nn, s, plE (a + 1) ks, ps⟩ : GNode) = x := by have := P1.out; rw [hx] at this; exact Option.some.inj this
    obtain ⟨v0, v1, rfl, hwf, hk0, hp0⟩ := hR
    have cP := fun W (hW : Below w.heap.size w W) => copyPats_o ps hps1 hps2 _ lo W (hp0.below GPat.good hW)
    have hki := fun W (hW : Below w.heap.size w W) => hk0.below IntR.good hW
    obtain ⟨ka, kc, rfl⟩ := hk0.form
    obtain ⟨pa, pc, rfl⟩ := hp0.form
    dsimp only at r1 cP hki
    have hwfI : (ExT.mk kd at_ nn s ks ps).wf := hwf
    obtain ⟨m, hm⟩ : ∃ m, m = ks.length := ⟨_, rfl⟩
    rw [plE_len, ← hm] at r1
    rw [plE_len, ← hm] at hki
    obtain ⟨pm, hpm⟩ : ∃ m, m = ps.length := ⟨_, rfl⟩
    rw [← hpm] at r1 cP
    obtain ⟨n, hn⟩ : ∃ n, n = N.length := ⟨_, rfl⟩
    have hml : m ≤ szEs ks := by rw [hm]; exact len_szEs ks
    have hszN : szEs ks ≤ 600 := by
      have h1 : (layE a (.mk kd at_ nn s ks ps)).length = szEs ks + 1 := by rw [layE_len, szE_mk]
      have h2 := hL (szEs ks) _ (List.getElem?_eq_getElem (by omega))
      have := (List.getElem?_eq_some_iff.1 h2).1
      omega
    have hpost : ∀ W q F, ExR F (fun g => w.heap.size ≤ g) W (.pointer (some ⟨q, 0, none⟩)) (.mk kd at_ nn s ks ps) → Below w.heap.size w W → GrPost (.mk kd at_ nn s ks ps) w (.returned (.pointer (some ⟨q, 0, none⟩))) W := fun W q F h1 h2 => ⟨q, F, rfl, h1, h2⟩
    generalize GrPost (.mk kd at_ nn s ks ps) w = Q at *
    rw [← hn] at hak ul hnv ⊢
    obtain ⟨e_0, e_1, e_2, e_3, e_4, e_5⟩ := r1.cells6
    have hbb1 := World.block_lt_of_cell? _ _ e_0; dsimp only at hbb1
    have hcast : ∀ j, j < m → ∃ (k : ExT) (z : Nat), ks[j]? = some k ∧ Laid N z k ∧ (plE (a + 1) ks)[j]? = some (z : Int) ∧ szE k ≤ f ∧ z < n := fun j hj => by
      obtain ⟨k, hk⟩ : ∃ k, ks[j]? = some k := ⟨_, List.getElem?_eq_getElem (by omega)⟩
      obtain ⟨h1, h2⟩ := hkid j k hk
      have h3 : N[_]? = some _ := h1 0 _ (List.getElem?_eq_getElem (by rw [layE_len]; exact szE_pos k))
      have h4 := (List.getElem?_eq_some_iff.1 h3).1
      exact ⟨k, _, hk, h1, h2, by have := szEs_mem hk; omega, by omega⟩
    clear h0 P1 hk0 hp0 hkid r1
    replace hm := Lib.hid hm; replace hpm := Lib.hid hpm; replace hn := Lib.hid hn; replace ih := Lib.hid ih; replace hcast := Lib.hid hcast; replace cP := Lib.hid cP; replace hki := Lib.hid hki; replace hpost := Lib.hid hpost; replace hL := Lib.hid hL; replace hx := Lib.hid hx; replace hwfI := Lib.hid hwfI; replace hps2 := Lib.hid hps2; replace hP := Lib.hid hP; replace hwf := Lib.hid hwf; replace hnv := Lib.hid hnv
    obtain ⟨iX, hi0, hz0, hz1, hz2⟩ := info_parts info_exG; have IX := Lib.hid hi0; have IX0 := Lib.hid hz0; have IX1 := Lib.hid hz1; have IX2 := Lib.hid hz2; clear hi0 hz0 hz1 hz2
    go_enter Tryz.func90, Tryz.ntmps90
    go_upto_region 2 with fail
    obtain ⟨w1, hW1⟩ : ∃ W, W = w.alloc (.cells #[.int .i64 kd, .int .i64 at_, .int .i64 nn, .string s, .slice ka m kc, .slice pa pm pc] 74) := ⟨_, rfl⟩
    rw [← hW1]
    have hb1 : Below w.heap.size w w1 := by rw [hW1]; go_grown
    have E1 : RowAt w1 w.heap.size 0 [.int .i64 kd, .int .i64 at_, .int .i64 nn, .string s, .slice ka m kc, .slice pa pm pc] := by rw [hW1]; exact RowAt.box w #[_, _, _, _, _, _] _
    have hs1 : w1.heap.size = w.heap.size + 1 := by rw [hW1]; simp
    obtain ⟨nb, hnb⟩ : ∃ x, x = w.heap.size := ⟨_, rfl⟩
    rw [← hnb] at E1 ⊢
    replace hnb := Lib.hid hnb
    clear hW1 e_0 e_1 e_2 e_3 e_4 e_5
    obtain ⟨e1_0, e1_1, e1_2, e1_3, e1_4, e1_5⟩ := E1.box6; have hsE1 := World.block_lt_of_cell? _ _ e1_0; dsimp only at hsE1
    have hd1 : Below w1.heap.size w1 w1.drew := (Below.refl _ _).drew
    go_cut [6] (fun sx wx => ∃ q pv bs, sx = .pointer (some ⟨q, 0, none⟩) ∧ GB w.heap.size q kd at_ nn s wx (.slice none 0 0) pv [] bs [] ps ∧ Below w.heap.size w wx ∧ RowAt wx nb 0 [.int .i64 kd, .int .i64 at_, .int .i64 nn, .string s, .slice ka m kc, .slice pa pm pc])
    case first =>
      go_region_held3 (fun w' => w'.cell? ⟨nb, 0, none⟩ = some (.int .i64 kd) ∧ w'.cell? ⟨nb, 1, none⟩ = some (.int .i64 at_) ∧ w'.cell? ⟨nb, 2, none⟩ = some (.int .i64 nn) ∧ w'.cell? ⟨nb, 3, none⟩ = some (.string s) ∧ w'.cell? ⟨nb, 5, none⟩ = some (.slice pa pm pc))
        (first | exact ⟨e1_0, e1_1, e1_2, e1_3, e1_5⟩ | exact ⟨e2_0, e2_1, e2_2, e2_3, e2_5⟩ | go_keep)
        (first | (go_at_call 120; (with_reducible refine (cP.out _ (hb1.drew)).mono ?_); rintro e w2 ⟨pv2, bs2, rfl, SP, nP, fP, hbP⟩; obtain ⟨a2, c2, rfl⟩ := SP.form; have hb2 : Below w1.heap.size w1 w2 := Below.trans (by go_grown) hbP; have E2 := E1.below hb2; obtain ⟨e2_0, e2_1, e2_2, e2_3, e2_4, e2_5⟩ := E2.box6; have hsE2 := World.block_lt_of_cell? _ _ e2_0; dsimp only at hsE2))
      all_goals go_wp2_with fail
      all_goals
        go_meet
        have hz2 := hb2.size
        have hnb' := hnb.out
        have hb3 : Below w2.heap.size w2 (w2.alloc (.cells #[.int .i64 kd, .int .i64 at_, .int .i64 nn, .string s, .slice none 0 0, .slice a2 ps.length c2] 167)) := by go_grown
        exact ⟨_, _, bs2, rfl, GB.start SP (fun g hg => by have := fP g hg; have := hd1.size; omega) (by omega) rfl rfl, (hb1.trans (hb2.mono (by omega))).trans (hb3.mono (by omega)), E2.below hb3⟩
    obtain ⟨q, pv, bs, rfl, GB0, hw, E⟩ := hcut
    clear hb1 E1 e1_0 e1_1 e1_2 e1_3 e1_4 e1_5 hsE1 hd1 hs1 cP
    obtain ⟨e_0, e_1, e_2, e_3, e_4, e_5⟩ := E.box6; have hsE := World.block_lt_of_cell? _ _ e_0; dsimp only at hsE
    replace GB0 := Lib.hid GB0
    go_wp2_with fail
    go_loopw [29] (fun ii wr => ∃ (j : Nat) (kv : Value) (vs : List Value), j ≤ m ∧ ii = .int .i64 j ∧ Hid (GB w.heap.size q kd at_ nn s wr kv pv vs bs (ks.take j) ps) ∧ Below w.heap.size w wr) (fun ii _ => m - (intOf ii).toNat)
    case atStart => exact ⟨0, _, _, by omega, rfl, by simpa using GB0, hw⟩
    case round =>
      clear GB0 hw E e_0 e_1 e_2 e_3 e_4 e_5 hsE
      obtain ⟨j, kv, vs, hj, rfl, GB1, hw⟩ := hrel
      have hsz := hw.size
      by_cases hjm : j < m
      · obtain ⟨k, z, hk, hLk, hpl, hszk, hzn⟩ := hcast.out j hjm
        have hkl := hki.out _ hw
        obtain ⟨ka', kc', hv', kl1, kl2, hk0⟩ := hkl
        obtain ⟨rfl, rfl⟩ : ka = ka' ∧ kc = kc' := by injection hv' with e1 e2 e3; exact ⟨e1, e3⟩
        obtain ⟨b2, o2, y, r2, _, rfl, P2, hy, r2'⟩ := hk0.get (n := m) (Lib.hid (by rw [plE_len]; exact hm.out)) hjm
        obtain rfl : (z : Int) = y := by have := P2.out; rw [hpl] at this; exact Option.some.inj this
        obtain ⟨rfl, hy64⟩ := hy
        have f_0 : wr.cell? ⟨b2, o2 + j, none⟩ = some (.int .i64 (z : Int)) := by simpa using r2' 0 _ rfl
        have hbb2 := World.block_lt_of_cell? _ _ f_0; dsimp only at hbb2
        have hwd := hw.drew
        have cG := ih.out k z _ lo wr.drew hszk hLk (hnv.out.below GNode.good hwd)
        have hkn : j = (ks.take j).length := by rw [List.length_take]; have := hm.out; omega
        obtain ⟨ka2, kc2, hkv⟩ := own_form GB1.out.kown
        rw [← hkn] at hkv
        subst hkv
        have htk : ks.take (j + 1) = ks.take j ++ [k] := by rw [List.take_add_one, hk]; rfl
        have GBd := GB1.out.below (show Below wr.heap.size wr wr.drew from (Below.refl _ _).drew)
        have hltq := GB1.out.lt
        have hall : ∀ (w2 : World) (q2 : Nat), (∃ F, ExR F (fun g => wr.drew.heap.size ≤ g) w2 (.pointer (some ⟨q2, 0, none⟩)) k) → Below wr.drew.heap.size wr.drew w2 →
            GB w.heap.size q kd at_ nn s w2 (.slice ka2 j kc2) pv vs bs (ks.take j) ps ∧ Below w.heap.size w w2 ∧
            (∀ (w3 w4 : World) g cap, Below w2.heap.size w2 w3 → w3.grownBy w4 (Value.slice ka2 j kc2).ownBlock → w4.ownsRow w.heap.size 127 1 (.slice (some ⟨g, 0, none⟩) (j + 1) cap) (j + 1) (vs ++ [.pointer (some ⟨q2, 0, none⟩)]) → ((Value.slice ka2 j kc2).ownBlock = some g ∨ g = w3.heap.size) →
              GB w.heap.size q kd at_ nn s (w4.setCell ⟨q, 4, none⟩ (.slice (some ⟨g, 0, none⟩) (j + 1) cap)) (.slice (some ⟨g, 0, none⟩) (j + 1) cap) pv (vs ++ [.pointer (some ⟨q2, 0, none⟩)]) bs (ks.take (j + 1)) ps ∧ Below w.heap.size w (w4.setCell ⟨q, 4, none⟩ (.slice (some ⟨g, 0, none⟩) (j + 1) cap))) := fun w2 q2 hX hb2 => by
          have G2 := GBd.below hb2
          have hz2 := hb2.size
          have hzd := hwd.size
          have hw2 := hwd.trans (hb2.mono hzd)
          refine ⟨G2, hw2, fun w3 w4 g cap hB h1 h2 h3 => ?_⟩
          have hT : ∃ F, ExR F (fun g => w.heap.size ≤ g ∧ g ≠ q ∧ (Value.slice ka2 j kc2).ownBlock ≠ some g) w2 (.pointer (some ⟨q2, 0, none⟩)) k := by
            obtain ⟨F, hF⟩ := hX
            refine ⟨F, hF.to (Same.below (Below.refl _ _)) fun g h1 _ => ?_⟩
            have hzr : wr.heap.size ≤ wr.drew.heap.size := by simp
            refine ⟨by omega, by omega, fun e => ?_⟩
            have := (own_base GB1.out.kown g e).2
            omega
          obtain ⟨A, B⟩ := G2.addKid hkn hT hB h1 h2 h3 rfl rfl
          rw [htk]
          exact ⟨A, hw2.trans (B (by omega))⟩
        clear hk0 P2 r2' GBd
        replace cG := Lib.hid cG; replace hall := Lib.hid hall; replace hkn := Lib.hid hkn; replace htk := Lib.hid htk; replace hpl := Lib.hid hpl; replace hk := Lib.hid hk; replace hLk := Lib.hid hLk
        obtain ⟨m_0, m_1, m_2, m_3, m_4, m_5⟩ := GB1.out.row.box6
        go_upto_region 6 with fail
        go_region_law
          (first
            | (go_simp; go_at_call 90; (with_reducible refine (cG.out).mono ?_); rintro e w2 ⟨q2, F2, rfl, X2, hb2⟩; obtain ⟨G2, hw2, hex⟩ := hall.out w2 q2 ⟨F2, X2⟩ hb2; have hown2 := G2.kown; rw [← hkn.out] at hown2; have hr2 := G2.row; have hwr2 := G2.wr; obtain ⟨r_0, r_1, r_2, r_3, r_4, r_5⟩ := hr2.box6; have hlt2 := G2.lt; have hne3 : ∀ g, (Value.slice ka2 j kc2).ownBlock = some g → g ≠ q := (fun g hg e => G2.kq (e ▸ hg)); have hz2 := hw2.size; have hhx := Lib.hid hex; have hho := Lib.hid hown2; have hhn := Lib.hid hne3; clear hex hown2 hne3 X2 hb2 G2)
            | ((refine step_append_lies _ (by rfl) _ _ _ (by rfl) (w.heap.size) 127 iX _ 1 8 Tryz.underlying165 IX.out IX0.out IX1.out IX2.out rfl (by omega) _ (j) (vs) (by rfl) (own_below hho.out (by go_grown)) ⟨w2.heap.size, 0, none⟩ 1 1 [.pointer (some ⟨q2, 0, none⟩)] (by rfl) (by rfl) (World.news_of_block (cs := #[.pointer (some ⟨q2, 0, none⟩)]) (t := 127) (fr := (0, 0)) (heap_alloc_new' _ _ _ (by simp))) (by intro u hu; simp at hu; (first | (subst hu; rfl) | (rcases hu with rfl | rfl | rfl | rfl <;> rfl) | (rcases hu with rfl | rfl | rfl | rfl | rfl | rfl <;> rfl) | (rcases hu with rfl | rfl | rfl | rfl | rfl | rfl | rfl <;> rfl))) (by omega) (by unfold maxLen; omega) (by omega) (by simp; omega) _ rfl ?_; intro g3 cap3 w11 hown3 hgrow3 hat3 hlt3); have hx2 := hhx.out _ _ _ _ (by go_grown) hgrow3 hown3 hat3; have k11 := kept_of hgrow3 (w := w2) (by go_grown); obtain ⟨u_0, u_1, u_2, u_3, u_4, u_5⟩ := (hr2.kept k11 (fun e => hhn.out _ e.symm rfl)).box6; have uf_4 := (hwr2.kept k11 (fun e => hhn.out _ e.symm rfl)).frz 4 (by omega); have ubl := World.block_lt_of_cell? _ _ u_0; dsimp only at ubl))
        all_goals
          obtain ⟨G12, hw12⟩ := hx2
          clear hown3 hgrow3 hat3 hlt3 k11 u_0 u_1 u_2 u_3 u_4 u_5 uf_4 ubl r_0 r_1 r_2 r_3 r_4 r_5 hr2 hwr2 hhx hho hhn hall cG m_0 m_1 m_2 m_3 m_4 m_5
          generalize w11.setCell ⟨q, 4, none⟩ (.slice (some ⟨g3, 0, none⟩) (j + 1) cap3) = w12 at *
          go_wp2_with fail
          go_roundw
          case rel => exact ⟨j + 1, _, _, by omega, by go_num, Lib.hid G12, hw12⟩
          case measure => simp [intOf]; omega
      · obtain rfl : j = m := by omega
        have hfull : ks.take j = ks := List.take_of_length_le (by have := hm.out; omega)
        rw [hfull] at GB1
        obtain ⟨FF, hFF⟩ := GB1.out.done hwfI.out ⟨hps1, hps2.out⟩
        go_wp2_with fail
        exact hpost.out _ q FF hFF hw
end Go.Proofs.YtaimekaagmcmnaaGreat

/- When an instruction is right; the program's test. -/
namespace Go.Proofs.YtaimekaagmcmnaaGreat
open Go.RowKit
set_option linter.unusedVariables false
set_option linter.unusedSimpArgs false
attribute [local go_sem] Ext.cell

def primB : List ByteArray := [⟨#[43]⟩, ⟨#[45]⟩, ⟨#[42]⟩, ⟨#[47]⟩, ⟨#[37]⟩, ⟨#[94]⟩, ⟨#[61]⟩, ⟨#[60, 62]⟩, ⟨#[60]⟩, ⟨#[60, 61]⟩]
def primOk (s : ByteArray) : Bool := primB.any fun y => s.toList == y.toList

theorem prim_row (w : World) (T : TypeId) : RowAt (w.alloc (.cells (primB.map Value.string).toArray T)) w.heap.size 0 (primB.map Value.string) := by
  have := RowAt.box w (primB.map Value.string).toArray T
  simpa using this
theorem prim_ok : ∀ y ∈ primB, StrOk y := by
  intro y hy
  have : y.size ≤ 5 := by
    revert y
    decide
  unfold StrOk; omega
set_option maxRecDepth 100000 in
set_option maxHeartbeats 4000000 in
theorem primOps_c (w : World) : Calls Tryz.prog 108 #[] w fun e w' => ∃ g, e = .returned (.slice (some ⟨g, 0, none⟩) 10 10) ∧ Sl StrR 1 0 w' (.slice (some ⟨g, 0, none⟩) 10 10) primB ∧ Below w.heap.size w w' := by
  go_enter Tryz.func108, Tryz.ntmps108
  go_wp2_with fail
  go_returns
  refine ⟨w.heap.size, rfl, ?_, by go_grown⟩
  exact (row_strs (prim_row w 9) prim_ok 10 (by decide) (by omega)).mono StrR.good (Nat.zero_le _)

end Go.Proofs.YtaimekaagmcmnaaGreat
