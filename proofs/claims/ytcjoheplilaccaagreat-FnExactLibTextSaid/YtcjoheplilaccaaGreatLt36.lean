/- Parts of the proof, merged: ProgOk, ProgOk2. -/
import Derived.Test.YtcjoheplilaccaaGreatLt35
/- ProgramOk: the program's. -/
namespace Go.Proofs.YtcjoheplilaccaaGreat
open Go.RowKit
set_option linter.unusedVariables false
set_option linter.unusedSimpArgs false
attribute [local go_sem] Ext.cell

def progD (p : GProgram) : GData := ⟨p.nodes.map asD⟩
def kidsAtN (N : List GNode) (i : Nat) : List Int := kidsAt (N.map asD) i
theorem kidsAtN_get {N : List GNode} {i : Nat} {x : GNode} (h : N[i]? = some x) : kidsAtN N i = x.kids := by
  unfold kidsAtN kidsAt
  rw [List.getElem?_map, h]; rfl
def inOrd (N : List GNode) : Bool := decide (endsK N.length (kidsAtN N) (N.length + 1) 0 = N.length)
theorem inOrd_kids {N : List GNode} (h : inOrd N = true) {i : Nat} {x : GNode} (hx : N[i]? = some x) : ∀ k ∈ x.kids, 0 ≤ k ∧ k < (N.length : Int) := by
  have h1 := of_decide_eq_true h
  have h2 := kids_in (d := ⟨N.map asD⟩) (i := i) (x := asD x) (by simp only [List.length_map]; exact h1) (by rw [List.getElem?_map, hx]; rfl)
  simpa [asD] using h2
def shapeP (p : GProgram) : Bool := (decide (1 ≤ (p.nodes.length : Int) ∧ (p.nodes.length : Int) ≤ 600) && decide ((p.types.length : Int) ≤ 8)) && (inOrd p.nodes && (p.nodes.all (nodOk p.nodes) && p.types.all typeOk))
def progOk (p : GProgram) : Bool := shapeP p && p.nodes.all fun x => patsOk x.pats
def nodeSm (x : GNode) : Prop := x.pats.length ≤ 1152921504606846976 ∧ ∀ q ∈ x.pats, q.nodes.length ≤ 1152921504606846976
structure ProgSm (p : GProgram) : Prop where
  n : p.nodes.length ≤ 1152921504606846976
  t : p.types.length ≤ 1152921504606846976
  ts : ∀ t ∈ p.types, typeSm t
  ns : ∀ x ∈ p.nodes, nodeSm x

set_option maxRecDepth 100000 in
set_option maxHeartbeats 4000000 in
theorem shapeKids_c (N : List GNode) (hN : N.length ≤ 1152921504606846976) (u : Value) (lo b : Nat) (w : World) (hu : Sl GNode.R 6 lo w u N) (hb : w.cell? ⟨b, 1, none⟩ = some u) :
    KidsGive N.length (kidsAtN N) 106 #[.pointer (some ⟨b, 0, none⟩)] lo w := by
  intro i hi
  obtain ⟨ua, uc, rfl, ul, um, h0⟩ := hu
  obtain ⟨b1, o1, x, r, _, rfl, P1, ⟨u0, u1, rfl, _, hk, _⟩, r1⟩ := h0.get (Lib.hid rfl) hi
  refine ⟨u0, by rw [kidsAtN_get P1.out]; exact hk, fun W hW => ?_⟩
  have e1 := cell_below hW hb
  have e2 : W.cell? ⟨b1, o1 + i * 6 + 4, none⟩ = some u0 := cell_below hW (by simpa using r1 4 _ rfl)
  clear h0 P1 hk r1 hb hW
  generalize N.length = n at *
  show Calls Tryz.prog 106 #[.int .i64 i, .pointer (some ⟨b, 0, none⟩)] W _
  go_enter Tryz.func106, Tryz.ntmps106
  go_wp2_with fail
  go_returns
  exact ⟨rfl, by go_grown⟩

set_option maxRecDepth 100000 in
set_option maxHeartbeats 4000000 in
theorem badType_c (t : GType) (ht : typeSm t) (r : List Value) (lo : Nat) (w : World) (hr : GType.R lo w r t) :
    Calls Tryz.prog 109 (#[.agg r.toArray] ++ #[]) w fun e w' => e = .returned (.bool (!typeOk t)) ∧ Below w.heap.size w w' := by
  have hR := hr
  obtain ⟨u0, rfl, _, h0⟩ := hr
  have c1 := fun W (hW : Below w.heap.size w W) => typeOk_c t ht _ lo W (GType.good.below hR hW)
  clear h0 hR
  generalize typeOk t = k at *
  obtain ⟨nm, pp, cs⟩ := t
  dsimp only at *
  replace c1 := Lib.hid c1
  show Calls Tryz.prog 109 #[.agg #[.string nm, .int .i64 pp, u0]] w _
  go_enter Tryz.func109, Tryz.ntmps109
  go_upto_region 1 with fail
  have C : RowAt (w.alloc (.cells #[.string nm, .int .i64 pp, u0] 81)) (w.heap.size) 0 [.string nm, .int .i64 pp, u0] := RowAt.box w #[.string nm, .int .i64 pp, u0] 81
  have hw : Below w.heap.size w (w.alloc (.cells #[.string nm, .int .i64 pp, u0] 81)) := by go_grown
  generalize (w.alloc (.cells #[.string nm, .int .i64 pp, u0] 81)) = w0 at *
  obtain ⟨c_0, c_1, c_2⟩ := C.box3; have hsC := World.block_lt_of_cell? _ _ c_0; dsimp only at hsC
  go_wp2_with (go_at_call 110; ((with_reducible refine (c1.out _ hw).mono ?_); rintro e w1 ⟨rfl, hb⟩; have hw := hw.trans (hb.mono hw.size); have C := C.below hb; obtain ⟨c_0, c_1, c_2⟩ := C.box3; have hsC := World.block_lt_of_cell? _ _ c_0; dsimp only at hsC; clear hb))
  go_returns
  exact ⟨rfl, hw⟩

set_option maxRecDepth 100000 in
set_option maxHeartbeats 16000000 in
theorem shapeOk_c (p : GProgram) (hs : ProgSm p) (r : List Value) (lo : Nat) (w : World) (hr : GProgram.R lo w r p) :
    Calls Tryz.prog 85 #[.agg r.toArray, .func (.func 86) #[] #[]] w fun e w' => e = .returned (.bool (shapeP p)) ∧ Below w.heap.size w w' := by
  obtain ⟨Ts, N⟩ := p
  obtain ⟨tv, nv, rfl, -, hT, hN⟩ := hr
  obtain ⟨s1, s2, s3, s4⟩ := hs
  dsimp only at *
  have H1 := fun W (hW : Below w.heap.size w W) => shapeKids_c N s1 nv lo w.heap.size W (hN.below GNode.good hW)
  have H3 := fun W (hk : KidsGive N.length (kidsAtN N) 106 #[.pointer (some ⟨w.heap.size, 0, none⟩)] lo W) => inOrder_c N.length s1 (kidsAtN N) 106 #[.pointer (some ⟨w.heap.size, 0, none⟩)] lo W hk (fun _ _ => by kernel_rfl)
  have H4 := fun W (hW : Below w.heap.size w W) => containsFuncType_c Ts (fun t => !typeOk t) 109 #[] lo tv W (hT.below GType.good hW) (fun i x r W' hi hW' hx => badType_c x (s3 x (List.mem_of_getElem? hi)) r lo W' hx) (fun _ _ => by kernel_rfl)
  have W1 := fun W => within_c N.length 1 600 W
  have hS : shapeP ⟨Ts, N⟩ = ((decide (1 ≤ (N.length : Int) ∧ (N.length : Int) ≤ 600) && decide ((Ts.length : Int) ≤ 8)) && (inOrd N && (N.all (nodOk N) && Ts.all typeOk))) := rfl
  have hany : Ts.any (fun t => !typeOk t) = !Ts.all typeOk := by rw [← List.not_all_eq_any_not]
  generalize shapeP ⟨Ts, N⟩ = res at *
  rw [hany] at H4
  have hin := fun h i x => @inOrd_kids N h i x
  obtain ⟨ta, tc, rfl⟩ := hT.form
  obtain ⟨na, nc, hnv, ul, um, h0⟩ := hN
  subst hnv
  change ∀ W, _ → Calls Tryz.prog 105 _ W (fun e w' => e = .returned (.bool (inOrd N)) ∧ Below W.heap.size W w') at H3
  have hsl : ∀ W, Below w.heap.size w W → Sl GNode.R 6 lo W (.slice na N.length nc) N := fun W hW => ⟨na, nc, rfl, ul, um, h0.below GNode.good hW⟩
  have hkk : ∀ W, Below w.heap.size w W → SlAt GNode.R 6 lo W na N := fun W hW => h0.below GNode.good hW
  have hNN := s1
  obtain ⟨n, hn⟩ : ∃ n, n = N.length := ⟨_, rfl⟩
  obtain ⟨tn, htn⟩ : ∃ tn, tn = Ts.length := ⟨_, rfl⟩
  rw [← hn] at ul H1 H3 W1 s1 hS hsl
  rw [← htn] at hS s2 H4
  rw [← hn, ← htn]
  clear hT h0 s3
  generalize htt : Ts.all typeOk = tt at *
  generalize hio : inOrd N = io at *
  replace hn := Lib.hid hn; replace htn := Lib.hid htn; replace H1 := Lib.hid H1; replace H3 := Lib.hid H3; replace H4 := Lib.hid H4; replace s4 := Lib.hid s4; replace hsl := Lib.hid hsl; replace hkk := Lib.hid hkk; replace hNN := Lib.hid hNN
  replace hS := Lib.hid hS; replace hin := Lib.hid hin
  generalize hd1 : decide (1 ≤ (n : Int) ∧ (n : Int) ≤ 600) = d1 at *
  generalize hd2 : decide ((tn : Int) ≤ 8) = d2 at *
  have hd3 : decide (8 < (tn : Int)) = !d2 := by rw [← hd2, ← decide_not, decide_eq_decide]; omega
  have hd3' : decide (8 < tn) = !d2 := by rw [← hd2, ← decide_not, decide_eq_decide]; omega
  clear hd1 hd2 htt hio
  show Calls Tryz.prog 85 #[.agg #[.slice ta tn tc, .slice na n nc], .func (.func 86) #[] #[]] w _
  cases d1
  · have hr : res = false := hS.out
    subst hr
    clear hS
    go_enter Tryz.func85, Tryz.ntmps85
    go_upto_region 1 with fail
    have D : RowAt (w.alloc (.cells #[.slice ta tn tc, .slice na n nc] 46)) (w.heap.size) 0 [.slice ta tn tc, .slice na n nc] := RowAt.box w #[.slice ta tn tc, .slice na n nc] 46
    have hw : Below w.heap.size w (w.alloc (.cells #[.slice ta tn tc, .slice na n nc] 46)) := by go_grown
    generalize (w.alloc (.cells #[.slice ta tn tc, .slice na n nc] 46)) = w0 at *
    obtain ⟨d_0, d_1⟩ := D.box2; have hsD := World.block_lt_of_cell? _ _ d_0; dsimp only at hsD
    go_wp2_with (go_at_call 59; ((with_reducible refine (W1 _).mono ?_); rintro e w1 ⟨rfl, rfl⟩))
    go_returns
    exact ⟨rfl, hw⟩
  cases d2
  · have hr : res = false := hS.out
    replace hd3 : decide (8 < (tn : Int)) = true := hd3
    replace hd3' : decide (8 < tn) = true := hd3'
    subst hr
    clear hS
    go_enter Tryz.func85, Tryz.ntmps85
    go_upto_region 1 with fail
    have D : RowAt (w.alloc (.cells #[.slice ta tn tc, .slice na n nc] 46)) (w.heap.size) 0 [.slice ta tn tc, .slice na n nc] := RowAt.box w #[.slice ta tn tc, .slice na n nc] 46
    have hw : Below w.heap.size w (w.alloc (.cells #[.slice ta tn tc, .slice na n nc] 46)) := by go_grown
    generalize (w.alloc (.cells #[.slice ta tn tc, .slice na n nc] 46)) = w0 at *
    obtain ⟨d_0, d_1⟩ := D.box2; have hsD := World.block_lt_of_cell? _ _ d_0; dsimp only at hsD
    go_wp2_with (go_at_call 59; ((with_reducible refine (W1 _).mono ?_); rintro e w1 ⟨rfl, rfl⟩))
    go_returns
    exact ⟨rfl, hw⟩
  replace hd3 : decide (8 < (tn : Int)) = false := hd3
  replace hd3' : decide (8 < tn) = false := hd3'
  cases io
  · have hr : res = false := hS.out
    subst hr
    clear hS
    go_enter Tryz.func85, Tryz.ntmps85
    go_upto_region 1 with fail
    have D : RowAt (w.alloc (.cells #[.slice ta tn tc, .slice na n nc] 46)) (w.heap.size) 0 [.slice ta tn tc, .slice na n nc] := RowAt.box w #[.slice ta tn tc, .slice na n nc] 46
    have hw : Below w.heap.size w (w.alloc (.cells #[.slice ta tn tc, .slice na n nc] 46)) := by go_grown
    generalize (w.alloc (.cells #[.slice ta tn tc, .slice na n nc] 46)) = w0 at *
    obtain ⟨d_0, d_1⟩ := D.box2; have hsD := World.block_lt_of_cell? _ _ d_0; dsimp only at hsD
    go_wp2_with (first | (go_at_call 59; ((with_reducible refine (W1 _).mono ?_); rintro e w1 ⟨rfl, rfl⟩)) | (go_at_call 105; ((with_reducible refine (H3.out _ (H1.out _ hw d_1)).mono ?_); rintro e w1 ⟨rfl, hb⟩; have hw := hw.trans (hb.mono hw.size); have D := D.below hb; obtain ⟨d_0, d_1⟩ := D.box2; have hsD := World.block_lt_of_cell? _ _ d_0; dsimp only at hsD; clear hb)))
    go_returns
    exact ⟨rfl, hw⟩
  replace hS : Hid (res = (N.all (nodOk N) && tt)) := hS
  have hin2 : ∀ (i : Nat) x, N[i]? = some x → ∀ k ∈ x.kids, 0 ≤ k ∧ k < (N.length : Int) := hin.out rfl
  clear hin
  replace hin2 := Lib.hid hin2
  go_enter Tryz.func85, Tryz.ntmps85
  go_upto_region 1 with fail
  have D : RowAt (w.alloc (.cells #[.slice ta tn tc, .slice na n nc] 46)) (w.heap.size) 0 [.slice ta tn tc, .slice na n nc] := RowAt.box w #[.slice ta tn tc, .slice na n nc] 46
  have hw : Below w.heap.size w (w.alloc (.cells #[.slice ta tn tc, .slice na n nc] 46)) := by go_grown
  generalize (w.alloc (.cells #[.slice ta tn tc, .slice na n nc] 46)) = w0 at *
  obtain ⟨d_0, d_1⟩ := D.box2; have hsD := World.block_lt_of_cell? _ _ d_0; dsimp only at hsD
  go_wp2_with (first | (go_at_call 59; ((with_reducible refine (W1 _).mono ?_); rintro e w1 ⟨rfl, rfl⟩)) | (go_at_call 105; ((with_reducible refine (H3.out _ (H1.out _ hw d_1)).mono ?_); rintro e w1 ⟨rfl, hb⟩; have hw := hw.trans (hb.mono hw.size); have D := D.below hb; obtain ⟨d_0, d_1⟩ := D.box2; have hsD := World.block_lt_of_cell? _ _ d_0; dsimp only at hsD; clear hb)))
  go_loopw [27] (fun ii wr => ∃ k : Nat, k ≤ n ∧ ii = .int .i64 k ∧ Hid (∀ y ∈ N.take k, nodOk N y = true) ∧ Below w.heap.size w wr ∧ RowAt wr w.heap.size 0 [.slice ta tn tc, .slice na n nc]) (fun ii _ => n - (intOf ii).toNat)
  case atStart => exact ⟨0, by omega, rfl, fun y hy => by simp at hy, hw, D⟩
  case round =>
    clear hw D d_0 d_1 hsD
    obtain ⟨k, hk, rfl, hF, hw, D⟩ := hrel
    have hsz := hw.size
    obtain ⟨d_0, d_1⟩ := D.box2; have hsD := World.block_lt_of_cell? _ _ d_0; dsimp only at hsD
    by_cases hlt : k < n
    · obtain ⟨b1, o1, x, r, _, rfl, P1, hx, r1⟩ := (hkk.out _ hw).get hn.out hlt
      have P1' := P1.out
      have hxs := s4.out x (List.mem_of_getElem? P1')
      have hxin := hin2.out k x P1'
      have hgood := fun h => all_stepL (f := nodOk N) hF.out P1' h
      have hbadp : nodOk N x = false → res = false := fun h => by rw [hS.out, all_bad P1' h]; rfl
      obtain ⟨v0, v1, rfl, hwf, hk0, hp0⟩ := hx
      have cN := fun W (hW : Below wr.heap.size wr W) (hW2 : Below w.heap.size w W) => nodeOkN_c x hwf N hNN.out (.slice ta tn tc) (some ⟨b1, o1, none⟩) nc v0 v1 lo lo W (hn.out ▸ hsl.out W hW2) (hk0.below IntR.good hW) (by obtain ⟨pa, pc, h⟩ := hp0.form; exact ⟨pa, pc, h⟩) hxs.1 hxin
      rw [← hn.out] at cN
      generalize nodOk N x = q at *
      obtain ⟨kd, at_, nn, s, ks, ps⟩ := x
      obtain ⟨ka, kc, rfl⟩ := hk0.form
      obtain ⟨pa, pc, rfl⟩ := hp0.form
      dsimp only at *
      obtain ⟨e_0, e_1, e_2, e_3, e_4, e_5⟩ := r1.cells6
      have hbb1 := World.block_lt_of_cell? _ _ e_0; dsimp only at hbb1
      clear hk0 hp0 hwf r1 P1 P1' hxin hxs hF
      generalize ks.length = m at *
      generalize ps.length = pm at *
      replace hgood := Lib.hid hgood; replace hbadp := Lib.hid hbadp; replace cN := Lib.hid cN
      go_upto_region 8 with fail
      have hb1 : Below wr.heap.size wr (wr.alloc (.cells #[.int .i64 kd, .int .i64 at_, .int .i64 nn, .string s, .slice ka m kc, .slice pa pm pc] 100)) := by go_grown
      have E : RowAt (wr.alloc (.cells #[.int .i64 kd, .int .i64 at_, .int .i64 nn, .string s, .slice ka m kc, .slice pa pm pc] 100)) wr.heap.size 0 [.int .i64 kd, .int .i64 at_, .int .i64 nn, .string s, .slice ka m kc, .slice pa pm pc] := RowAt.box _ _ _
      have hw' := hw.trans (hb1.mono hsz)
      have D' := D.below hb1
      have cN' := cN.out _ hb1 hw'
      generalize wr.alloc (.cells #[.int .i64 kd, .int .i64 at_, .int .i64 nn, .string s, .slice ka m kc, .slice pa pm pc] 100) = w2 at *
      clear hw D d_0 d_1 hsD e_0 e_1 e_2 e_3 e_4 e_5 hb1 cN
      have hw := hw'; have D := D'
      clear hw' D'
      replace cN' := Lib.hid cN'
      obtain ⟨d_0, d_1⟩ := D.box2; have hsD := World.block_lt_of_cell? _ _ d_0; dsimp only at hsD; obtain ⟨e_0, e_1, e_2, e_3, e_4, e_5⟩ := E.box6; have hsE := World.block_lt_of_cell? _ _ e_0; dsimp only at hsE
      cases q
      · have hr := hbadp.out rfl
        subst hr
        clear hbadp hgood hS
        go_wp2_with (go_at_call 107; ((with_reducible refine (cN'.out).mono ?_); rintro e w1 ⟨rfl, hb⟩; have hw := hw.trans (hb.mono hw.size); have D := D.below hb; obtain ⟨d_0, d_1⟩ := D.box2; have hsD := World.block_lt_of_cell? _ _ d_0; dsimp only at hsD; have E := E.below hb; obtain ⟨e_0, e_1, e_2, e_3, e_4, e_5⟩ := E.box6; have hsE := World.block_lt_of_cell? _ _ e_0; dsimp only at hsE; clear hb))
        go_returns
        exact ⟨rfl, hw⟩
      · have hF := Lib.hid (hgood.out rfl)
        clear hbadp hgood
        go_wp2_with (go_at_call 107; ((with_reducible refine (cN'.out).mono ?_); rintro e w1 ⟨rfl, hb⟩; have hw := hw.trans (hb.mono hw.size); have D := D.below hb; obtain ⟨d_0, d_1⟩ := D.box2; have hsD := World.block_lt_of_cell? _ _ d_0; dsimp only at hsD; have E := E.below hb; obtain ⟨e_0, e_1, e_2, e_3, e_4, e_5⟩ := E.box6; have hsE := World.block_lt_of_cell? _ _ e_0; dsimp only at hsE; clear hb))
        go_roundw
        case rel => exact ⟨k + 1, by omega, by go_num, hF, hw, D⟩
        case measure => simp [intOf]; omega
    · obtain rfl : k = n := by omega
      have hr : res = tt := by rw [hS.out, all_full hF.out hn.out]; rfl
      subst hr
      clear hF hS
      go_wp2_with (go_at_call 108; ((with_reducible refine (H4.out _ hw).mono ?_); rintro e w1 ⟨rfl, hb⟩; have hw := hw.trans (hb.mono hw.size); have D := D.below hb; obtain ⟨d_0, d_1⟩ := D.box2; have hsD := World.block_lt_of_cell? _ _ d_0; dsimp only at hsD; clear hb))
      go_returns
      exact ⟨by simp, hw⟩
end Go.Proofs.YtcjoheplilaccaaGreat

/- ProgramOk: the program's, whole; where a program's node ends in the reference. -/
namespace Go.Proofs.YtcjoheplilaccaaGreat
open Go.RowKit
set_option linter.unusedVariables false
set_option linter.unusedSimpArgs false
attribute [local go_sem] Ext.cell

set_option maxRecDepth 100000 in
set_option maxHeartbeats 4000000 in
theorem badPatN_c (q : GPat) (hq : q.nodes.length ≤ 1152921504606846976) (r : List Value) (lo : Nat) (w : World) (hr : GPat.R lo w r q) :
    Calls Tryz.prog 88 (#[.agg r.toArray] ++ #[]) w fun e w' => e = .returned (.bool (!patOk (patD q))) ∧ Below w.heap.size w w' := by
  have hR := GPat.toData hr
  obtain ⟨u0, rfl, _, h0⟩ := hr
  obtain ⟨a, c, rfl⟩ := h0.form
  have c1 := fun W (hW : Below w.heap.size w W) => PatOk_c (patD q) (by unfold patD; simp only [List.length_map]; exact hq) _ lo W (GData.good.below hR hW)
  clear h0 hR hq
  generalize patOk (patD q) = k at *
  generalize q.nodes.length = n at *
  replace c1 := Lib.hid c1
  show Calls Tryz.prog 88 #[.agg #[.slice a n c]] w _
  go_enter Tryz.func88, Tryz.ntmps88
  go_upto_region 1 with fail
  have C : RowAt (w.alloc (.cells #[.slice a n c] 103)) (w.heap.size) 0 [.slice a n c] := RowAt.box w #[.slice a n c] 103
  have hw : Below w.heap.size w (w.alloc (.cells #[.slice a n c] 103)) := by go_grown
  generalize (w.alloc (.cells #[.slice a n c] 103)) = w0 at *
  have c_0 := C.box1; have hsC := World.block_lt_of_cell? _ _ c_0; dsimp only at hsC
  go_wp2_with (go_at_call 89; ((with_reducible refine (c1.out _ hw).mono ?_); rintro e w1 ⟨rfl, hb⟩; have hw := hw.trans (hb.mono hw.size); have C := C.below hb; have c_0 := C.box1; have hsC := World.block_lt_of_cell? _ _ c_0; dsimp only at hsC; clear hb))
  go_returns
  exact ⟨rfl, hw⟩

set_option maxRecDepth 100000 in
set_option maxHeartbeats 16000000 in
theorem ProgramOk_c (p : GProgram) (hs : ProgSm p) (r : List Value) (lo : Nat) (w : World) (hr : GProgram.R lo w r p) :
    Calls Tryz.prog 58 #[.agg r.toArray] w fun e w' => e = .returned (.bool (progOk p)) ∧ Below w.heap.size w w' := by
  have cS := fun W (hW : Below w.heap.size w W) => shapeOk_c p hs r lo W (GProgram.good.below hr hW)
  obtain ⟨Ts, N⟩ := p
  obtain ⟨tv, nv, rfl, -, hT, hN⟩ := hr
  obtain ⟨s1, s2, s3, s4⟩ := hs
  have hS : progOk ⟨Ts, N⟩ = (shapeP ⟨Ts, N⟩ && N.all fun x => patsOk x.pats) := rfl
  dsimp only at *
  generalize progOk ⟨Ts, N⟩ = res at *
  generalize shapeP ⟨Ts, N⟩ = sp at *
  obtain ⟨na, nc, rfl, ul, um, h0⟩ := hN
  obtain ⟨n, hn⟩ : ∃ n, n = N.length := ⟨_, rfl⟩
  rw [← hn] at ul cS s1 ⊢
  have hkk : ∀ W, Below w.heap.size w W → SlAt GNode.R 6 lo W na N := fun W hW => h0.below GNode.good hW
  clear hT h0 s3
  replace hn := Lib.hid hn; replace s4 := Lib.hid s4; replace hkk := Lib.hid hkk; replace hS := Lib.hid hS; replace cS := Lib.hid cS
  show Calls Tryz.prog 58 #[.agg #[tv, .slice na n nc]] w _
  cases sp
  · have hr : res = false := hS.out
    subst hr
    clear hS
    go_enter Tryz.func58, Tryz.ntmps58
    go_upto_region 1 with fail
    have D : RowAt (w.alloc (.cells #[tv, .slice na n nc] 46)) (w.heap.size) 0 [tv, .slice na n nc] := RowAt.box w #[tv, .slice na n nc] 46
    have hw : Below w.heap.size w (w.alloc (.cells #[tv, .slice na n nc] 46)) := by go_grown
    generalize (w.alloc (.cells #[tv, .slice na n nc] 46)) = w0 at *
    obtain ⟨d_0, d_1⟩ := D.box2; have hsD := World.block_lt_of_cell? _ _ d_0; dsimp only at hsD
    go_wp2_with (go_at_call 85; ((with_reducible refine (cS.out _ hw).mono ?_); rintro e w1 ⟨rfl, hb⟩; have hw := hw.trans (hb.mono hw.size); have D := D.below hb; obtain ⟨d_0, d_1⟩ := D.box2; have hsD := World.block_lt_of_cell? _ _ d_0; dsimp only at hsD; clear hb))
    go_returns
    exact ⟨rfl, hw⟩
  replace hS : Hid (res = N.all fun x => patsOk x.pats) := hS
  go_enter Tryz.func58, Tryz.ntmps58
  go_upto_region 1 with fail
  have D : RowAt (w.alloc (.cells #[tv, .slice na n nc] 46)) (w.heap.size) 0 [tv, .slice na n nc] := RowAt.box w #[tv, .slice na n nc] 46
  have hw : Below w.heap.size w (w.alloc (.cells #[tv, .slice na n nc] 46)) := by go_grown
  generalize (w.alloc (.cells #[tv, .slice na n nc] 46)) = w0 at *
  obtain ⟨d_0, d_1⟩ := D.box2; have hsD := World.block_lt_of_cell? _ _ d_0; dsimp only at hsD
  go_wp2_with (go_at_call 85; ((with_reducible refine (cS.out _ hw).mono ?_); rintro e w1 ⟨rfl, hb⟩; have hw := hw.trans (hb.mono hw.size); have D := D.below hb; obtain ⟨d_0, d_1⟩ := D.box2; have hsD := World.block_lt_of_cell? _ _ d_0; dsimp only at hsD; clear hb))
  go_loopw [11] (fun ii wr => ∃ k : Nat, k ≤ n ∧ ii = .int .i64 k ∧ Hid (∀ y ∈ N.take k, patsOk y.pats = true) ∧ Below w.heap.size w wr ∧ RowAt wr w.heap.size 0 [tv, .slice na n nc]) (fun ii _ => n - (intOf ii).toNat)
  case atStart => exact ⟨0, by omega, rfl, fun y hy => by simp at hy, hw, D⟩
  case round =>
    clear hw D d_0 d_1 hsD
    obtain ⟨k, hk, rfl, hF, hw, D⟩ := hrel
    have hsz := hw.size
    obtain ⟨d_0, d_1⟩ := D.box2; have hsD := World.block_lt_of_cell? _ _ d_0; dsimp only at hsD
    by_cases hlt : k < n
    · obtain ⟨b1, o1, x, r, _, rfl, P1, hx, r1⟩ := (hkk.out _ hw).get hn.out hlt
      have P1' := P1.out
      have hxs := s4.out x (List.mem_of_getElem? P1')
      have hgood := fun h => all_stepL (f := fun (x : GNode) => patsOk x.pats) hF.out P1' h
      have hbadp : patsOk x.pats = false → res = false := fun h => by rw [hS.out]; exact all_bad (f := fun (x : GNode) => patsOk x.pats) P1' h
      obtain ⟨v0, v1, rfl, hwf, hk0, hp0⟩ := hx
      have H4 := fun W (hW : Below wr.heap.size wr W) => containsFuncPat_c x.pats (fun q => !patOk (patD q)) 88 #[] lo v1 W (hp0.below GPat.good hW) (fun i q r W' hi hW' hx => badPatN_c q (hxs.2 q (List.mem_of_getElem? hi)) r lo W' hx) (fun _ _ => by kernel_rfl)
      have hany : x.pats.any (fun q => !patOk (patD q)) = !patsOk x.pats := by rw [← List.not_all_eq_any_not]; rfl
      rw [hany] at H4
      generalize patsOk x.pats = q at *
      obtain ⟨kd, at_, nn, s, ks, ps⟩ := x
      obtain ⟨pa, pc, rfl⟩ := hp0.form
      obtain ⟨ka, kc, rfl⟩ := hk0.form
      dsimp only at *
      obtain ⟨e_0, e_1, e_2, e_3, e_4, e_5⟩ := r1.cells6
      have hbb1 := World.block_lt_of_cell? _ _ e_0; dsimp only at hbb1
      clear hk0 hp0 hwf r1 P1 P1' hxs hF hany
      generalize ps.length = pm at *
      generalize ks.length = m at *
      replace hgood := Lib.hid hgood; replace hbadp := Lib.hid hbadp; replace H4 := Lib.hid H4
      go_upto_region 6 with fail
      have hb1 : Below wr.heap.size wr (wr.alloc (.cells #[.int .i64 kd, .int .i64 at_, .int .i64 nn, .string s, .slice ka m kc, .slice pa pm pc] 100)) := by go_grown
      have E : RowAt (wr.alloc (.cells #[.int .i64 kd, .int .i64 at_, .int .i64 nn, .string s, .slice ka m kc, .slice pa pm pc] 100)) wr.heap.size 0 [.int .i64 kd, .int .i64 at_, .int .i64 nn, .string s, .slice ka m kc, .slice pa pm pc] := RowAt.box _ _ _
      have hw' := hw.trans (hb1.mono hsz)
      have D' := D.below hb1
      have cN' := H4.out _ hb1
      generalize wr.alloc (.cells #[.int .i64 kd, .int .i64 at_, .int .i64 nn, .string s, .slice ka m kc, .slice pa pm pc] 100) = w2 at *
      clear hw D d_0 d_1 hsD e_0 e_1 e_2 e_3 e_4 e_5 hb1 H4
      have hw := hw'; have D := D'
      clear hw' D'
      replace cN' := Lib.hid cN'
      obtain ⟨d_0, d_1⟩ := D.box2; have hsD := World.block_lt_of_cell? _ _ d_0; dsimp only at hsD; obtain ⟨e_0, e_1, e_2, e_3, e_4, e_5⟩ := E.box6; have hsE := World.block_lt_of_cell? _ _ e_0; dsimp only at hsE
      cases q
      · have hr := hbadp.out rfl
        subst hr
        clear hbadp hgood hS
        go_wp2_with (go_at_call 87; ((with_reducible refine (cN'.out).mono ?_); rintro e w1 ⟨rfl, hb⟩; have hw := hw.trans (hb.mono hw.size); have D := D.below hb; obtain ⟨d_0, d_1⟩ := D.box2; have hsD := World.block_lt_of_cell? _ _ d_0; dsimp only at hsD; have E := E.below hb; obtain ⟨e_0, e_1, e_2, e_3, e_4, e_5⟩ := E.box6; have hsE := World.block_lt_of_cell? _ _ e_0; dsimp only at hsE; clear hb))
        go_returns
        exact ⟨rfl, hw⟩
      · have hF := Lib.hid (hgood.out rfl)
        clear hbadp hgood
        go_wp2_with (go_at_call 87; ((with_reducible refine (cN'.out).mono ?_); rintro e w1 ⟨rfl, hb⟩; have hw := hw.trans (hb.mono hw.size); have D := D.below hb; obtain ⟨d_0, d_1⟩ := D.box2; have hsD := World.block_lt_of_cell? _ _ d_0; dsimp only at hsD; have E := E.below hb; obtain ⟨e_0, e_1, e_2, e_3, e_4, e_5⟩ := E.box6; have hsE := World.block_lt_of_cell? _ _ e_0; dsimp only at hsE; clear hb))
        go_roundw
        case rel => exact ⟨k + 1, by omega, by go_num, hF, hw, D⟩
        case measure => simp [intOf]; omega
    · obtain rfl : k = n := by omega
      have hr : res = true := by rw [hS.out]; exact all_full (f := fun (x : GNode) => patsOk x.pats) hF.out hn.out
      subst hr
      clear hF hS
      go_wp2_with fail
      go_returns
      exact ⟨rfl, hw⟩

/-! The reference's end of a node. -/
theorem endsN (N : List GNode) (f i : Nat) : ends (N.map asD) f i = endsK N.length (kidsAtN N) f i := by
  rw [ends_eq, List.length_map]; rfl

end Go.Proofs.YtcjoheplilaccaaGreat
