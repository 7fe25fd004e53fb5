/- Parts of the proof, merged: Cnt1, Cnt2, Cnt3. -/
import Derived.Deep.RegionHeld3
import Derived.Deep.RegionLaw
import Derived.Test.YtcjoheplilaccaaGreatLt28
/- The program's patNames and binds. -/
namespace Go.Proofs.YtcjoheplilaccaaGreat
open Go.RowKit
set_option linter.unusedVariables false
set_option linter.unusedSimpArgs false
attribute [local go_sem] Ext.cell

theorem info_strN : (Tryz.prog.info? 9).map (fun i => (i.zero, i.size, i.bytes)) = some (some (.string ⟨#[]⟩), 1, 16) := by kernel_rfl
def pnamesL (l : List GPNode) : List ByteArray := (l.filter fun x => x.kind == 2).map (·.s)
def pnames (q : GPat) : List ByteArray := pnamesL q.nodes
theorem pnamesL_snoc (l : List GPNode) (x : GPNode) : pnamesL (l ++ [x]) = pnamesL l ++ (if x.kind = 2 then [x.s] else []) := by
  unfold pnamesL
  rw [List.filter_append, List.map_append]
  congr 1
  by_cases h : x.kind = 2
  · rw [if_pos h, List.filter_cons_of_pos (by simp [h])]; rfl
  · rw [if_neg h, List.filter_cons_of_neg (by simp [h])]; rfl
theorem pnamesL_len (l : List GPNode) : (pnamesL l).length ≤ l.length := by
  unfold pnamesL
  rw [List.length_map]
  exact List.length_filter_le _ _

set_option maxRecDepth 100000 in
set_option maxHeartbeats 8000000 in
theorem patNames_c (q : GPat) (hq : q.nodes.length ≤ 600) (r : List Value) (lo : Nat) (w : World) (hr : GPat.R lo w r q) :
    Calls Tryz.prog 114 #[.agg r.toArray] w fun e w' => ∃ v, e = .returned v ∧ OwnF 9 1 strRow StrOk w.heap.size w' v (pnames q) ∧ Below w.heap.size w w' := by
  obtain ⟨u0, rfl, _, hS⟩ := hr
  obtain ⟨N⟩ := q
  dsimp only at hS hq
  obtain ⟨na, nc, rfl, ul, um, h0⟩ := hS
  obtain ⟨n, hn⟩ : ∃ n, n = N.length := ⟨_, rfl⟩
  rw [← hn] at ul hq ⊢
  have hkk : ∀ W, Below w.heap.size w W → SlAt GPNode.R 4 lo W na N := fun W hW => h0.below GPNode.good hW
  have hpost : ∀ W v, OwnF 9 1 strRow StrOk w.heap.size W v (pnames ⟨N⟩) → Below w.heap.size w W → ∃ v', (Ending.returned v) = .returned v' ∧ OwnF 9 1 strRow StrOk w.heap.size W v' (pnames ⟨N⟩) ∧ Below w.heap.size w W := fun W v h1 h2 => ⟨v, rfl, h1, h2⟩
  clear h0
  replace hn := Lib.hid hn; replace hkk := Lib.hid hkk; replace hpost := Lib.hid hpost
  obtain ⟨iJ, hi0, hz0, hz1, hz2⟩ := info_parts info_strN; have IJ := Lib.hid hi0; have IJ0 := Lib.hid hz0; have IJ1 := Lib.hid hz1; have IJ2 := Lib.hid hz2; clear hi0 hz0 hz1 hz2
  show Calls Tryz.prog 114 #[.agg #[.slice na n nc]] w _
  go_enter Tryz.func114, Tryz.ntmps114
  go_upto_region 1 with fail
  obtain ⟨w1, hW1⟩ : ∃ W, W = w.alloc (.cells #[.slice na n nc] 103) := ⟨_, rfl⟩
  rw [← hW1]
  have hb1 : Below w.heap.size w w1 := by rw [hW1]; go_grown
  have B1 : RowAt w1 w.heap.size 0 [.slice na n nc] := by rw [hW1]; exact RowAt.box w #[_] _
  have hs1 : w1.heap.size = w.heap.size + 1 := by rw [hW1]; simp
  clear hW1
  go_upto_region 2 with fail
  obtain ⟨w2, hW2⟩ : ∃ W, W = w1.alloc (.cells #[] 9) := ⟨_, rfl⟩
  rw [← hW2]
  have hb2 : Below w1.heap.size w1 w2 := by rw [hW2]; go_grown
  have O2 : OwnF 9 1 strRow StrOk w.heap.size w2 (.slice (some ⟨w1.heap.size, 0, none⟩) 0 0) [] := ⟨own_empty_at (by rw [hW2]; exact heap_alloc_new' _ _ _ (by simp)) (by omega), fun x h => by cases h⟩
  have hz2 : w2.heap.size = w1.heap.size + 1 := by rw [hW2]; simp
  have B2 := B1.below hb2
  have hw := hb1.trans (hb2.mono (by omega))
  clear hW2 B1 hb1 hb2
  have b2_0 := B2.box1; have hsB2 := World.block_lt_of_cell? _ _ b2_0; dsimp only at hsB2
  go_upto_region 3 with fail
  go_loopw [3, 10] (fun nv ii wr => ∃ k : Nat, k ≤ n ∧ ii = .int .i64 k ∧ Hid (OwnF 9 1 strRow StrOk w.heap.size wr nv (pnamesL (N.take k))) ∧ Below w.heap.size w wr) (fun _ ii _ => n - (intOf ii).toNat)
  case atStart => rw [hs1] at O2; exact ⟨0, by omega, rfl, by simpa [pnamesL] using Lib.hid O2, hw⟩
  case round =>
    clear O2 hw B2 b2_0 hsB2 hz2 hs1
    obtain ⟨k, hk, rfl, O, hw⟩ := hrel
    have hsz := hw.size
    by_cases hlt : k < n
    · obtain ⟨b1, o1, x, r, _, rfl, P1, hx, r1⟩ := (hkk.out _ hw).get hn.out hlt
      have htk : N.take (k + 1) = N.take k ++ [x] := by rw [List.take_add_one, P1.out]; rfl
      have hpn := pnamesL_snoc (N.take k) x
      rw [← htk] at hpn
      obtain ⟨v0, rfl, hwf, hk0⟩ := hx
      obtain ⟨ka, kc, rfl⟩ := hk0.form
      obtain ⟨kd, nn, s, ks⟩ := x
      dsimp only at *
      have hss : StrOk s := hwf.2.2
      obtain ⟨e_0, e_1, e_2, e_3⟩ := r1.cells4
      have hbb1 := World.block_lt_of_cell? _ _ e_0; dsimp only at hbb1
      clear hk0 r1 hwf P1
      generalize ks.length = kn at *
      have hkb : (pnamesL (N.take k)).length ≤ 600 := by
        have h1 := pnamesL_len (N.take k)
        rw [List.length_take] at h1
        omega
      generalize hl : pnamesL (N.take k) = l at *
      generalize hl2 : pnamesL (N.take (k + 1)) = l2 at *
      obtain ⟨va, vc, rfl⟩ := O.out.form
      obtain ⟨vn, hvn⟩ : ∃ x, x = l.length := ⟨_, rfl⟩
      have hown := O.out.1
      have hOw := Lib.hid O.out.2
      rw [← hvn] at hown hkb ⊢
      have hob := own_base hown
      replace hl := Lib.hid hl; replace hl2 := Lib.hid hl2; replace hpn := Lib.hid hpn; replace htk := Lib.hid htk; replace hvn := Lib.hid hvn
      by_cases h2 : kd = 2
      · subst h2
        go_upto_region 6 with fail
        obtain ⟨w4, hW4⟩ : ∃ W, W = wr.alloc (.cells #[.int .i64 2, .int .i64 nn, .string s, .slice ka kn kc] 137) := ⟨_, rfl⟩
        rw [← hW4]
        have hb4 : Below wr.heap.size wr w4 := by rw [hW4]; go_grown
        have E4 : RowAt w4 wr.heap.size 0 [.int .i64 2, .int .i64 nn, .string s, .slice ka kn kc] := by rw [hW4]; exact RowAt.box wr #[_, _, _, _] _
        have hown4 := own_below hown hb4
        have hw4 := hw.trans (hb4.mono hsz)
        have hz4 := hw4.size
        clear hW4 e_0 e_1 e_2 e_3 hb4 O
        obtain ⟨e4_0, e4_1, e4_2, e4_3⟩ := E4.box4; have hsE4 := World.block_lt_of_cell? _ _ e4_0; dsimp only at hsE4
        replace hown4 := Lib.hid hown4
        go_wp2_with (at_builtin; refine wpList_append_lies _ rfl _ _ _ rfl (w.heap.size) 9 iJ _ 1 16 Tryz.underlying22 IJ.out IJ0.out IJ1.out IJ2.out rfl (by omega) (.slice va vn vc) (vn) (rowsOf strRow l) rfl (own_below hown4.out (by go_grown)) ⟨w4.heap.size, 0, none⟩ 1 1 [.string s] rfl rfl (World.news_of_block (cs := #[.string s]) (t := 9) (fr := (0, 0)) (heap_alloc_new' _ _ _ (by simp))) (by intro u hu; simp at hu; (first | (subst hu; rfl) | (rcases hu with rfl | rfl | rfl | rfl <;> rfl) | (rcases hu with rfl | rfl | rfl | rfl | rfl | rfl <;> rfl) | (rcases hu with rfl | rfl | rfl | rfl | rfl | rfl | rfl <;> rfl) | (rcases hu with rfl | rfl | rfl | rfl | rfl | rfl | rfl | rfl | rfl <;> rfl))) (by omega) (by unfold maxLen; omega) (by omega) (by simp; omega) _ rfl ?_; intro g2 cap2 w6 hown6 hgrow hat hlt2)
        have hB6 : Below w.heap.size w w6 := below_grown2 (wr := w4) (base := w.heap.size) hgrow (by go_grown) hw4 hz4 hown4.out
        go_roundw
        case rel =>
          refine ⟨k + 1, by omega, by go_num, Lib.hid ⟨?_, fun y hy => ?_⟩, hB6⟩
          · rw [hl2.out, hpn.out, if_pos rfl, List.length_append, ← hvn.out, rowsOf_append, rowsOf_one]
            exact hown6
          · rw [hl2.out, hpn.out, if_pos rfl] at hy
            rcases List.mem_append.1 hy with h | h
            · exact hOw.out y h
            · simp only [List.mem_singleton] at h; rw [h]; exact hss
        case measure => simp [intOf]; omega
      · have d2 : (kd == 2) = false := beq_eq_false_iff_ne.2 h2
        go_wp2_with fail
        go_roundw
        case rel =>
          rw [hvn.out]
          have hb4 : Below wr.heap.size wr (wr.alloc (.cells #[.int .i64 kd, .int .i64 nn, .string s, .slice ka kn kc] 137)) := by go_grown
          refine ⟨k + 1, by omega, by go_num, Lib.hid ?_, hw.trans (Below.mono (by go_grown) hsz)⟩
          rw [hl2.out, hpn.out, if_neg h2, List.append_nil]
          exact O.out.below (by go_grown)
        case measure => simp [intOf]; omega
    · obtain rfl : k = n := by omega
      rw [List.take_of_length_le (by have := hn.out; omega)] at O
      go_wp2_with fail
      go_returns
      exact hpost.out _ _ O.out hw
end Go.Proofs.YtcjoheplilaccaaGreat

/- The program's binds. -/
namespace Go.Proofs.YtcjoheplilaccaaGreat
open Go.RowKit
set_option linter.unusedVariables false
set_option linter.unusedSimpArgs false
attribute [local go_sem] Ext.cell

def bindsP (kd : Int) (s : ByteArray) (ps : List GPat) (i : Nat) (name : ByteArray) : Bool :=
  if kd = 5 ∨ kd = 8 then eqS s name else if kd = 7 ∨ kd = 15 then decide (i = 1) && eqS s name
  else if kd = 13 then decide (0 < i) && anyS (pnames (ps[i - 1]?.getD ⟨[]⟩)) name else false
set_option maxRecDepth 100000 in
set_option maxHeartbeats 8000000 in
theorem binds_c {b m kc pm pc : Nat} {ka pa : Option Addr} {w : World} {kd at_ nn : Int} {s : ByteArray} {ps : List GPat} (hr : RowAt w b 0 [.int .i64 kd, .int .i64 at_, .int .i64 nn, .string s, .slice ka m kc, .slice pa pm pc]) (hp : Sl GPat.R 1 0 w (.slice pa pm pc) ps) (hq : ∀ q ∈ ps, q.nodes.length ≤ 600) (i : Nat) (hi : kd = 13 → i ≤ ps.length) (hi2 : i ≤ 600) (name : ByteArray) :
    Calls Tryz.prog 90 #[.pointer (some ⟨b, 0, none⟩), .int .i64 (i : Int), .string name] w fun e w' => e = .returned (.bool (bindsP kd s ps i name)) ∧ Below w.heap.size w w' := by
  obtain ⟨r_0, r_1, r_2, r_3, r_4, r_5⟩ := hr.box6
  have hbl := World.block_lt_of_cell? _ _ r_0; dsimp only at hbl
  have c1 : (s.toList == name.toList) = eqS s name := eqS_list s name
  have hB : bindsP kd s ps i name = if kd = 5 ∨ kd = 8 then eqS s name else if kd = 7 ∨ kd = 15 then decide (i = 1) && eqS s name
    else if kd = 13 then decide (0 < i) && anyS (pnames (ps[i - 1]?.getD ⟨[]⟩)) name else false := rfl
  generalize bindsP kd s ps i name = res at *
  generalize eqS s name = q at *
  by_cases k5 : kd = 5
  · subst k5
    rw [if_pos (.inl rfl)] at hB
    subst hB
    clear hp hq hi
    go_enter Tryz.func90, Tryz.ntmps90
    go_wp2_with fail
    go_returns
    exact ⟨rfl, by go_grown⟩
  have d5 : (kd == 5) = false := beq_eq_false_iff_ne.2 k5
  by_cases k8 : kd = 8
  · subst k8
    rw [if_pos (.inr rfl)] at hB
    subst hB
    clear hp hq hi
    go_enter Tryz.func90, Tryz.ntmps90
    go_wp2_with fail
    go_returns
    exact ⟨rfl, by go_grown⟩
  have d8 : (kd == 8) = false := beq_eq_false_iff_ne.2 k8
  rw [if_neg (by omega)] at hB
  by_cases k7 : kd = 7 ∨ kd = 15
  · rw [if_pos k7] at hB
    have hres : res = (decide (i = 1) && q) := hB
    clear hB hp hq hi
    by_cases i1 : i = 1
    · subst i1
      have hres2 : res = q := by rw [hres]; simp
      subst hres2
      clear hres
      rcases k7 with rfl | rfl
      · go_enter Tryz.func90, Tryz.ntmps90
        go_wp2_with fail
        go_returns
        exact ⟨rfl, by go_grown⟩
      · go_enter Tryz.func90, Tryz.ntmps90
        go_wp2_with fail
        go_returns
        exact ⟨rfl, by go_grown⟩
    · have hres2 : res = false := by rw [hres]; simp [i1]
      subst hres2
      clear hres
      have di : ((i : Int) == 1) = false := beq_eq_false_iff_ne.2 (by omega)
      have di2 : (i == 1) = false := beq_eq_false_iff_ne.2 i1
      rcases k7 with rfl | rfl
      · go_enter Tryz.func90, Tryz.ntmps90
        go_wp2_with fail
        go_returns
        exact ⟨rfl, by go_grown⟩
      · go_enter Tryz.func90, Tryz.ntmps90
        go_wp2_with fail
        go_returns
        exact ⟨rfl, by go_grown⟩
  have d7 : (kd == 7) = false := beq_eq_false_iff_ne.2 (by omega)
  have d15 : (kd == 15) = false := beq_eq_false_iff_ne.2 (by omega)
  rw [if_neg k7] at hB
  by_cases k13 : kd = 13
  · subst k13
    rw [if_pos rfl] at hB
    have hres : res = (decide (0 < i) && anyS (pnames (ps[i - 1]?.getD ⟨[]⟩)) name) := hB
    clear hB
    by_cases i0 : i = 0
    · have hres2 : res = false := by rw [hres]; simp [i0]
      subst hres2
      subst i0
      clear hres hp hq hi
      go_enter Tryz.func90, Tryz.ntmps90
      go_wp2_with fail
      go_returns
      exact ⟨rfl, by go_grown⟩
    · obtain ⟨j, rfl⟩ : ∃ j, i = j + 1 := ⟨i - 1, by omega⟩
      have hil := hi rfl
      have di : decide ((0 : Int) < ((j + 1 : Nat) : Int)) = true := decide_eq_true (by omega)
      have di3 : decide ((0 : Int) < (j : Int) + 1) = true := decide_eq_true (by omega)
      have di2 : decide (0 < j + 1) = true := decide_eq_true (by omega)
      have hpl : pm = ps.length := by obtain ⟨a, c, hv, _⟩ := hp; injection hv
      obtain ⟨pa', pc', hv, pl, pm', h0⟩ := hp
      obtain ⟨rfl, rfl⟩ : pa = pa' ∧ pc = pc' := by injection hv with e1 e2 e3; exact ⟨e1, e3⟩
      obtain ⟨b1, o1, x, r, _, rfl, P1, hx, r1⟩ := h0.get (k := j) (n := pm) (Lib.hid hpl) (by omega)
      have hx' := P1.out
      have hxs := hq x (List.mem_of_getElem? hx')
      rw [show j + 1 - 1 = j by omega, hx', Option.getD_some] at hres
      have hres2 : res = anyS (pnames x) name := by rw [hres]; simp
      clear hres h0 hq hi P1 hx'
      have cP := fun W (hW : Below w.heap.size w W) => patNames_c x hxs r 0 W (GPat.good.below hx hW)
      obtain ⟨v0, rfl, _, hx0⟩ := hx
      obtain ⟨xa, xc, rfl⟩ := hx0.form
      generalize x.nodes.length = xn at *
      have f_0 : w.cell? ⟨b1, o1 + j, none⟩ = some (.slice xa xn xc) := by simpa using r1 0 _ rfl
      have hbb1 := World.block_lt_of_cell? _ _ f_0; dsimp only at hbb1
      generalize hns : pnames x = ns at *
      have cN := fun W v lo (h : OwnF 9 1 strRow StrOk lo W v ns) => containsS_c ns name _ _ _ (h.sl flatStr)
      rw [show (ns.any fun y => name.toList == y.toList) = anyS ns name from anyS_list ns name, ← hres2] at cN
      clear hx0 r1 hns hres2
      have cP' : ∀ W (hW : Below w.heap.size w W), Calls Tryz.prog 114 #[.agg #[.slice xa xn xc]] W fun e w' => ∃ v, e = .returned v ∧ OwnF 9 1 strRow StrOk W.heap.size w' v ns ∧ Below W.heap.size W w' := cP
      replace cP' := Lib.hid cP'; replace cN := Lib.hid cN
      clear cP
      have hj1 : ((j + 1 : Nat) : Int) = (j : Int) + 1 := by omega
      rw [hj1]
      have hj2 : (j : Int) + 1 - 1 = (j : Int) := by omega
      have hj3 : IntKind.i64.wrap ((j : Int) + 1 - 1) = (j : Int) := by rw [hj2]; exact IntWalk.i64_in _ (by omega)
      have hjl : j < pm := by omega
      go_enter Tryz.func90, Tryz.ntmps90
      go_wp2_with (first
        | (go_at_call 114; (with_reducible refine (cP'.out _ (by go_grown)).mono ?_); rintro e w1 ⟨v1, rfl, O1, hb1⟩)
        | (go_at_call 18; (with_reducible refine (cN.out _ _ _ O1).mono ?_); rintro e w2 ⟨rfl, hb2⟩))
      go_returns
      exact ⟨rfl, hb1.trans (hb2.mono hb1.size)⟩
  · have d13 : (kd == 13) = false := beq_eq_false_iff_ne.2 k13
    rw [if_neg k13] at hB
    subst hB
    clear hp hq hi
    go_enter Tryz.func90, Tryz.ntmps90
    go_wp2_with fail
    go_returns
    exact ⟨rfl, by go_grown⟩
end Go.Proofs.YtcjoheplilaccaaGreat

/- The program's count: how many free variables of a name an expression has. -/
namespace Go.Proofs.YtcjoheplilaccaaGreat
open Go.RowKit
set_option linter.unusedVariables false
set_option linter.unusedSimpArgs false
attribute [local go_sem] Ext.cell

mutual
def countE (name : ByteArray) : ExT → Nat
  | .mk kd _ _ s ks ps => if kd = 3 then (if eqS s name then 1 else 0) else countKs name kd s ps 0 ks
def countKs (name : ByteArray) (kd : Int) (s : ByteArray) (ps : List GPat) : Nat → List ExT → Nat
  | _, [] => 0
  | i, k :: ks => (if bindsP kd s ps i name then 0 else countE name k) + countKs name kd s ps (i + 1) ks
end
mutual
def okE : ExT → Bool
  | .mk kd _ _ _ ks ps => (decide (kd = 13 → ks.length ≤ ps.length + 1) && ps.all fun q => decide (q.nodes.length ≤ 600)) && okEs ks
def okEs : List ExT → Bool
  | [] => true
  | k :: ks => okE k && okEs ks
end
theorem countE_mk (name : ByteArray) (kd a n : Int) (s : ByteArray) (ks : List ExT) (ps : List GPat) : countE name (.mk kd a n s ks ps) = if kd = 3 then (if eqS s name then 1 else 0) else countKs name kd s ps 0 ks := by rw [countE]
theorem countKs_snoc {name : ByteArray} {kd : Int} {s : ByteArray} {ps : List GPat} : ∀ (l : List ExT) (k : ExT) (i : Nat), countKs name kd s ps i (l ++ [k]) = countKs name kd s ps i l + (if bindsP kd s ps (i + l.length) name then 0 else countE name k)
  | [], k, i => by simp [countKs]
  | c :: l, k, i => by
    rw [List.cons_append, countKs, countKs_snoc l k (i + 1), countKs, List.length_cons, show i + 1 + l.length = i + (l.length + 1) by omega]
    omega
mutual
theorem countE_le (name : ByteArray) : ∀ t : ExT, countE name t ≤ szE t
  | .mk kd a n s ks ps => by
    rw [countE_mk, szE_mk]
    split
    · split <;> omega
    · have := countKs_le name kd s ps ks 0
      omega
theorem countKs_le (name : ByteArray) (kd : Int) (s : ByteArray) (ps : List GPat) : ∀ (ks : List ExT) (i : Nat), countKs name kd s ps i ks ≤ szEs ks
  | [], i => by rw [countKs]; omega
  | k :: ks, i => by
    rw [countKs, szEs]
    have h1 := countE_le name k
    have h2 := countKs_le name kd s ps ks (i + 1)
    split <;> omega
end
theorem okEs_get : ∀ {l : List ExT} {j : Nat} {k : ExT}, okEs l = true → l[j]? = some k → okE k = true
  | [], j, k, _, h => by simp at h
  | c :: l, 0, k, h, hk => by
    rw [okEs, Bool.and_eq_true] at h
    simp at hk; subst hk; exact h.1
  | c :: l, j + 1, k, h, hk => by
    rw [okEs, Bool.and_eq_true] at h
    exact okEs_get h.2 (by simpa using hk)
theorem szEs_mem2 : ∀ {l : List ExT} {j : Nat} {k : ExT}, l[j]? = some k → szE k ≤ szEs l
  | [], j, k, h => by simp at h
  | c :: l, 0, k, hk => by simp at hk; subst hk; rw [szEs]; omega
  | c :: l, j + 1, k, hk => by rw [szEs]; have := szEs_mem2 (l := l) (j := j) (by simpa using hk); omega

set_option maxRecDepth 100000 in
set_option maxHeartbeats 8000000 in
theorem count_c (name : ByteArray) : ∀ (f : Nat) (t : ExT) (A : Nat → Prop) (pv : Value) (w : World), ExR f A w pv t → okE t = true → szE t ≤ 600 →
    Calls Tryz.prog 61 #[pv, .string name] w fun e w' => e = .returned (.int .i64 (countE name t : Int)) ∧ Below w.heap.size w w'
  | 0, t, A, pv, w, h, _, _ => absurd h (by simp [ExR])
  | f + 1, t, A, pv, w, h, hok, hsz => by
    have ih := count_c name f
    obtain ⟨b, ka, kc, qv, bs, rfl, hAb, hwf, hps, hr, hq, hqb, kl, km, hk⟩ := h
    obtain ⟨kd, at_, nn, s, ks, ps⟩ := t
    simp only [ExT.kind, ExT.at_, ExT.n, ExT.s, ExT.kids, ExT.pats] at *
    obtain ⟨qa, qc, rfl⟩ := hq.form
    rw [okE, Bool.and_eq_true, Bool.and_eq_true] at hok
    obtain ⟨⟨ok1, ok2⟩, ok3⟩ := hok
    have ok1 := of_decide_eq_true ok1
    have ok2 : ∀ q ∈ ps, q.nodes.length ≤ 600 := fun q hq => of_decide_eq_true (List.all_eq_true.1 ok2 q hq)
    have hcnt := countE_mk name kd at_ nn s ks ps
    rw [szE_mk] at hsz
    have hle := fun j => countKs_le name kd s ps (ks.take j) 0
    obtain ⟨m, hm⟩ : ∃ m, m = ks.length := ⟨_, rfl⟩
    obtain ⟨qm, hqm⟩ : ∃ m, m = ps.length := ⟨_, rfl⟩
    rw [← hm] at kl hk hr
    rw [← hqm] at hr
    have hpsl : Sl GPat.R 1 0 w (.slice qa qm qc) ps := by have := hq.sl (lo := 0) GPat.ok (fun _ _ => Nat.zero_le _); rw [← hqm] at this; exact this
    have hml : m ≤ szEs ks := by rw [hm]; exact len_szEs ks
    have c1 : (s.toList == name.toList) = eqS s name := eqS_list s name
    have cB := fun W (hW : Below w.heap.size w W) (i : Nat) (hi : kd = 13 → i ≤ ps.length) (hi2 : i ≤ 600) => binds_c (hr.below hW) (hpsl.below GPat.good hW) ok2 i hi hi2 name
    obtain ⟨r_0, r_1, r_2, r_3, r_4, r_5⟩ := hr.box6
    have hbl := World.block_lt_of_cell? _ _ r_0; dsimp only at hbl
    generalize countE name (.mk kd at_ nn s ks ps) = res at *
    by_cases k3 : kd = 3
    · subst k3
      rw [if_pos rfl] at hcnt
      generalize eqS s name = q at *
      clear cB hk hpsl hq hqb ih hle ok1 ok2 ok3 hm hqm hr hps
      go_enter Tryz.func61, Tryz.ntmps61
      cases q
      · obtain rfl : res = 0 := hcnt
        go_wp2_with fail
        go_returns
        exact ⟨rfl, by go_grown⟩
      · obtain rfl : res = 1 := hcnt
        go_wp2_with fail
        go_returns
        exact ⟨rfl, by go_grown⟩
    have d3 : (kd == 3) = false := beq_eq_false_iff_ne.2 k3
    rw [if_neg k3] at hcnt
    clear c1 hpsl hq hqb hps
    replace hm := Lib.hid hm; replace hqm := Lib.hid hqm; replace ih := Lib.hid ih; replace hk := Lib.hid hk; replace cB := Lib.hid cB; replace ok1 := Lib.hid ok1; replace ok2 := Lib.hid ok2; replace ok3 := Lib.hid ok3; replace hcnt := Lib.hid hcnt; replace hle := Lib.hid hle; replace hr := Lib.hid hr
    go_enter Tryz.func61, Tryz.ntmps61
    go_wp2_with fail
    go_loopw [5, 24] (fun cc ii wr => ∃ j : Nat, j ≤ m ∧ cc = .int .i64 (countKs name kd s ps 0 (ks.take j) : Int) ∧ ii = .int .i64 j ∧ Below w.heap.size w wr) (fun _ ii _ => m - (intOf ii).toNat)
    case atStart => exact ⟨0, by omega, by simp [countKs], rfl, Below.refl _ _⟩
    case round =>
      obtain ⟨j, hj, rfl, rfl, hw⟩ := hrel
      have hsz1 := hw.size
      have hcl := hle.out j
      have hst := szEs_take ks j
      by_cases hjm : j < m
      · obtain ⟨g1, o1, rfl, hA1, hkk⟩ := hk.out (by omega)
        obtain ⟨k, hkj⟩ : ∃ k, ks[j]? = some k := ⟨_, List.getElem?_eq_getElem (by have := hm.out; omega)⟩
        obtain ⟨p, hp, hP⟩ := hkk j k hkj
        have htk : ks.take (j + 1) = ks.take j ++ [k] := by rw [List.take_add_one, hkj]; rfl
        have hlt : (ks.take j).length = j := by rw [List.length_take]; have := hm.out; omega
        have hsn := countKs_snoc (name := name) (kd := kd) (s := s) (ps := ps) (ks.take j) k 0
        rw [← htk, hlt, Nat.zero_add] at hsn
        have hkl := countE_le name k
        have hks := szEs_mem2 hkj
        have hnext := hle.out (j + 1)
        have hst2 := szEs_take ks (j + 1)
        have e_0 : wr.cell? ⟨g1, o1 + j, none⟩ = some p := cell_below hw hp
        have hbg1 : g1 < wr.heap.size := World.block_lt_of_cell? _ _ e_0
        have hP' := fun W (hW : Below w.heap.size w W) => hP.below hW
        obtain ⟨qb, rfl⟩ := hP.form
        have hc := fun W hW => ih.out k _ _ W (hP' W hW) (okEs_get ok3.out hkj) (by omega)
        have cb := cB.out wr hw j (fun h => by have := ok1.out h; have := hm.out; omega) (by omega)
        generalize bindsP kd s ps j name = bb at *
        generalize hc0 : countKs name kd s ps 0 (ks.take j) = c0 at *
        generalize hc1 : countKs name kd s ps 0 (ks.take (j + 1)) = c1 at *
        generalize countE name k = ck at *
        have hbr := hr.out.below hw
        obtain ⟨t_0, t_1, t_2, t_3, t_4, t_5⟩ := hbr.box6
        have hblr := World.block_lt_of_cell? _ _ t_0; dsimp only at hblr
        clear hkk hP hP' hp hbr
        replace hc := Lib.hid hc; replace cb := Lib.hid cb; replace hsn := Lib.hid hsn; replace htk := Lib.hid htk; replace hlt := Lib.hid hlt; replace hc0 := Lib.hid hc0; replace hc1 := Lib.hid hc1; replace hkj := Lib.hid hkj
        cases bb
        · have hs2 := hsn.out
          rw [if_neg (by simp)] at hs2
          have hs3 : (c1 : Int) = (c0 : Int) + (ck : Int) := by omega
          replace hs3 := Lib.hid hs3
          clear hs2
          go_wp2_with (first
            | (go_at_call 90; (with_reducible refine (cb.out).mono ?_); rintro e w1 ⟨rfl, hb1⟩; have hw1 := hw.trans (hb1.mono hsz1))
            | (go_at_call 61; (with_reducible refine (hc.out _ hw1).mono ?_); rintro e w2 ⟨rfl, hb2⟩))
          go_roundw
          case rel => exact ⟨j + 1, by omega, by rw [hc1.out, hs3.out], by go_num, hw1.trans (hb2.mono hw1.size)⟩
          case measure => simp [intOf]; omega
        · have hs2 := hsn.out
          rw [if_pos rfl, Nat.add_zero] at hs2
          replace hs2 := Lib.hid hs2
          go_wp2_with (go_at_call 90; (with_reducible refine (cb.out).mono ?_); rintro e w1 ⟨rfl, hb1⟩)
          go_roundw
          case rel => exact ⟨j + 1, by omega, by rw [hc1.out, hs2.out], by go_num, hw.trans (hb1.mono hsz1)⟩
          case measure => simp [intOf]; omega
      · obtain rfl : j = m := by omega
        have hfull : ks.take j = ks := List.take_of_length_le (by have := hm.out; omega)
        rw [hfull]
        have hr2 : (res : Int) = (countKs name kd s ps 0 ks : Int) := by rw [hcnt.out]
        replace hr2 := Lib.hid hr2
        generalize countKs name kd s ps 0 ks = cc at *
        go_wp2_with fail
        go_returns
        exact ⟨by rw [hr2.out]; rfl, hw⟩
end Go.Proofs.YtcjoheplilaccaaGreat
