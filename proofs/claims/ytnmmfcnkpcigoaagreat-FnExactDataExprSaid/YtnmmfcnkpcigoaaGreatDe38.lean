/- Parts of the proof, merged: ProgOk2. -/
import Derived.Test.YtnmmfcnkpcigoaaGreatDe37
/- ProgramOk: the program's, whole; where a program's node ends in the reference. -/
namespace Go.Proofs.YtnmmfcnkpcigoaaGreat
open Go.RowKit
set_option linter.unusedVariables false
set_option linter.unusedSimpArgs false
attribute [local go_sem] Ext.cell

set_option maxRecDepth 100000 in
set_option maxHeartbeats 4000000 in
theorem badPatN_c (q : GPat) (hq : q.nodes.length ≤ 1152921504606846976) (r : List Value) (lo : Nat) (w : World) (hr : GPat.R lo w r q) :
    Calls Tryz.prog 54 (#[.agg r.toArray] ++ #[]) w fun e w' => e = .returned (.bool (!patOk (patD q))) ∧ Below w.heap.size w w' := by
  have hR := GPat.toData hr
  obtain ⟨u0, rfl, _, h0⟩ := hr
  obtain ⟨a, c, rfl⟩ := h0.form
  have c1 := fun W (hW : Below w.heap.size w W) => PatOk_c (patD q) (by unfold patD; simp only [List.length_map]; exact hq) _ lo W (GData.good.below hR hW)
  clear h0 hR hq
  generalize patOk (patD q) = k at *
  generalize q.nodes.length = n at *
  replace c1 := Lib.hid c1
  show Calls Tryz.prog 54 #[.agg #[.slice a n c]] w _
  go_enter Tryz.func54, Tryz.ntmps54
  go_upto_region 1 with fail
  have C : RowAt (w.alloc (.cells #[.slice a n c] 105)) (w.heap.size) 0 [.slice a n c] := RowAt.box w #[.slice a n c] 105
  have hw : Below w.heap.size w (w.alloc (.cells #[.slice a n c] 105)) := by go_grown
  generalize (w.alloc (.cells #[.slice a n c] 105)) = w0 at *
  have c_0 := C.box1; have hsC := World.block_lt_of_cell? _ _ c_0; dsimp only at hsC
  go_wp2_with (go_at_call 55; ((with_reducible refine (c1.out _ hw).mono ?_); rintro e w1 ⟨rfl, hb⟩; have hw := hw.trans (hb.mono hw.size); have C := C.below hb; have c_0 := C.box1; have hsC := World.block_lt_of_cell? _ _ c_0; dsimp only at hsC; clear hb))
  go_returns
  exact ⟨rfl, hw⟩

set_option maxRecDepth 100000 in
set_option maxHeartbeats 16000000 in
theorem ProgramOk_c (p : GProgram) (hs : ProgSm p) (r : List Value) (lo : Nat) (w : World) (hr : GProgram.R lo w r p) :
    Calls Tryz.prog 23 #[.agg r.toArray] w fun e w' => e = .returned (.bool (progOk p)) ∧ Below w.heap.size w w' := by
  have cS := fun W (hW : Below w.heap.size w W) => shapeOk_c p hs r lo W (GProgram.good.below hr hW)
  obtain ⟨Ts, N⟩ := p
  obtain ⟨tv, nv, rfl, -, hT, hN⟩ := hr
  obtain ⟨s1, s2, s3, s4⟩ := hs
  have hS : progOk ⟨Ts, N⟩ = (shapeP ⟨Ts, N⟩ && N.all fun x => patsOk x.pats) := rfl
  dsimp only at *
  generalize progOk ⟨Ts, N⟩ = res at *
  generalize shapeP ⟨Ts, N⟩ = sp at *
  obtain ⟨na, nc, rfl, ul, um, h0⟩ := hN
  obtain ⟨n, hn⟩ : ∃ n, n = N.length := ⟨_, rfl⟩
  rw [← hn] at ul cS s1 ⊢
  have hkk : ∀ W, Below w.heap.size w W → SlAt GNode.R 6 lo W na N := fun W hW => h0.below GNode.good hW
  clear hT h0 s3
  replace hn := Lib.hid hn; replace s4 := Lib.hid s4; replace hkk := Lib.hid hkk; replace hS := Lib.hid hS; replace cS := Lib.hid cS
  show Calls Tryz.prog 23 #[.agg #[tv, .slice na n nc]] w _
  cases sp
  · have hr : res = false := hS.out
    subst hr
    clear hS
    go_enter Tryz.func23, Tryz.ntmps23
    go_upto_region 1 with fail
    have D : RowAt (w.alloc (.cells #[tv, .slice na n nc] 29)) (w.heap.size) 0 [tv, .slice na n nc] := RowAt.box w #[tv, .slice na n nc] 29
    have hw : Below w.heap.size w (w.alloc (.cells #[tv, .slice na n nc] 29)) := by go_grown
    generalize (w.alloc (.cells #[tv, .slice na n nc] 29)) = w0 at *
    obtain ⟨d_0, d_1⟩ := D.box2; have hsD := World.block_lt_of_cell? _ _ d_0; dsimp only at hsD
    go_wp2_with (go_at_call 50; ((with_reducible refine (cS.out _ hw).mono ?_); rintro e w1 ⟨rfl, hb⟩; have hw := hw.trans (hb.mono hw.size); have D := D.below hb; obtain ⟨d_0, d_1⟩ := D.box2; have hsD := World.block_lt_of_cell? _ _ d_0; dsimp only at hsD; clear hb))
    go_returns
    exact ⟨rfl, hw⟩
  replace hS : Hid (res = N.all fun x => patsOk x.pats) := hS
  go_enter Tryz.func23, Tryz.ntmps23
  go_upto_region 1 with fail
  have D : RowAt (w.alloc (.cells #[tv, .slice na n nc] 29)) (w.heap.size) 0 [tv, .slice na n nc] := RowAt.box w #[tv, .slice na n nc] 29
  have hw : Below w.heap.size w (w.alloc (.cells #[tv, .slice na n nc] 29)) := by go_grown
  generalize (w.alloc (.cells #[tv, .slice na n nc] 29)) = w0 at *
  obtain ⟨d_0, d_1⟩ := D.box2; have hsD := World.block_lt_of_cell? _ _ d_0; dsimp only at hsD
  go_wp2_with (go_at_call 50; ((with_reducible refine (cS.out _ hw).mono ?_); rintro e w1 ⟨rfl, hb⟩; have hw := hw.trans (hb.mono hw.size); have D := D.below hb; obtain ⟨d_0, d_1⟩ := D.box2; have hsD := World.block_lt_of_cell? _ _ d_0; dsimp only at hsD; clear hb))
  go_loopw [11] (fun ii wr => ∃ k : Nat, k ≤ n ∧ ii = .int .i64 k ∧ Hid (∀ y ∈ N.take k, patsOk y.pats = true) ∧ Below w.heap.size w wr ∧ RowAt wr w.heap.size 0 [tv, .slice na n nc]) (fun ii _ => n - (intOf ii).toNat)
  case atStart => exact ⟨0, by omega, rfl, fun y hy => by simp at hy, hw, D⟩
  case round =>
    clear hw D d_0 d_1 hsD
    obtain ⟨k, hk, rfl, hF, hw, D⟩ := hrel
    have hsz := hw.size
    obtain ⟨d_0, d_1⟩ := D.box2; have hsD := World.block_lt_of_cell? _ _ d_0; dsimp only at hsD
    by_cases hlt : k < n
    · obtain ⟨b1, o1, x, r, _, rfl, P1, hx, r1⟩ := (hkk.out _ hw).get hn.out hlt
      have P1' := P1.out
      have hxs := s4.out x (List.mem_of_getElem? P1')
      have hgood := fun h => all_stepL (f := fun (x : GNode) => patsOk x.pats) hF.out P1' h
      have hbadp : patsOk x.pats = false → res = false := fun h => by rw [hS.out]; exact all_bad (f := fun (x : GNode) => patsOk x.pats) P1' h
      obtain ⟨v0, v1, rfl, hwf, hk0, hp0⟩ := hx
      have H4 := fun W (hW : Below wr.heap.size wr W) => containsFuncPat_c x.pats (fun q => !patOk (patD q)) 54 #[] lo v1 W (hp0.below GPat.good hW) (fun i q r W' hi hW' hx => badPatN_c q (hxs.2 q (List.mem_of_getElem? hi)) r lo W' hx) (fun _ _ => by kernel_rfl)
      have hany : x.pats.any (fun q => !patOk (patD q)) = !patsOk x.pats := by rw [← List.not_all_eq_any_not]; rfl
      rw [hany] at H4
      generalize patsOk x.pats = q at *
      obtain ⟨kd, at_, nn, s, ks, ps⟩ := x
      obtain ⟨pa, pc, rfl⟩ := hp0.form
      obtain ⟨ka, kc, rfl⟩ := hk0.form
      dsimp only at *
      obtain ⟨e_0, e_1, e_2, e_3, e_4, e_5⟩ := r1.cells6
      have hbb1 := World.block_lt_of_cell? _ _ e_0; dsimp only at hbb1
      clear hk0 hp0 hwf r1 P1 P1' hxs hF hany
      generalize ps.length = pm at *
      generalize ks.length = m at *
      replace hgood := Lib.hid hgood; replace hbadp := Lib.hid hbadp; replace H4 := Lib.hid H4
      go_upto_region 6 with fail
      have hb1 : Below wr.heap.size wr (wr.alloc (.cells #[.int .i64 kd, .int .i64 at_, .int .i64 nn, .string s, .slice ka m kc, .slice pa pm pc] 47)) := by go_grown
      have E : RowAt (wr.alloc (.cells #[.int .i64 kd, .int .i64 at_, .int .i64 nn, .string s, .slice ka m kc, .slice pa pm pc] 47)) wr.heap.size 0 [.int .i64 kd, .int .i64 at_, .int .i64 nn, .string s, .slice ka m kc, .slice pa pm pc] := RowAt.box _ _ _
      have hw' := hw.trans (hb1.mono hsz)
      have D' := D.below hb1
      have cN' := H4.out _ hb1
      generalize wr.alloc (.cells #[.int .i64 kd, .int .i64 at_, .int .i64 nn, .string s, .slice ka m kc, .slice pa pm pc] 47) = w2 at *
      clear hw D d_0 d_1 hsD e_0 e_1 e_2 e_3 e_4 e_5 hb1 H4
      have hw := hw'; have D := D'
      clear hw' D'
      replace cN' := Lib.hid cN'
      obtain ⟨d_0, d_1⟩ := D.box2; have hsD := World.block_lt_of_cell? _ _ d_0; dsimp only at hsD; obtain ⟨e_0, e_1, e_2, e_3, e_4, e_5⟩ := E.box6; have hsE := World.block_lt_of_cell? _ _ e_0; dsimp only at hsE
      cases q
      · have hr := hbadp.out rfl
        subst hr
        clear hbadp hgood hS
        go_wp2_with (go_at_call 53; ((with_reducible refine (cN'.out).mono ?_); rintro e w1 ⟨rfl, hb⟩; have hw := hw.trans (hb.mono hw.size); have D := D.below hb; obtain ⟨d_0, d_1⟩ := D.box2; have hsD := World.block_lt_of_cell? _ _ d_0; dsimp only at hsD; have E := E.below hb; obtain ⟨e_0, e_1, e_2, e_3, e_4, e_5⟩ := E.box6; have hsE := World.block_lt_of_cell? _ _ e_0; dsimp only at hsE; clear hb))
        go_returns
        exact ⟨rfl, hw⟩
      · have hF := Lib.hid (hgood.out rfl)
        clear hbadp hgood
        go_wp2_with (go_at_call 53; ((with_reducible refine (cN'.out).mono ?_); rintro e w1 ⟨rfl, hb⟩; have hw := hw.trans (hb.mono hw.size); have D := D.below hb; obtain ⟨d_0, d_1⟩ := D.box2; have hsD := World.block_lt_of_cell? _ _ d_0; dsimp only at hsD; have E := E.below hb; obtain ⟨e_0, e_1, e_2, e_3, e_4, e_5⟩ := E.box6; have hsE := World.block_lt_of_cell? _ _ e_0; dsimp only at hsE; clear hb))
        go_roundw
        case rel => exact ⟨k + 1, by omega, by go_num, hF, hw, D⟩
        case measure => simp [intOf]; omega
    · obtain rfl : k = n := by omega
      have hr : res = true := by rw [hS.out]; exact all_full (f := fun (x : GNode) => patsOk x.pats) hF.out hn.out
      subst hr
      clear hF hS
      go_wp2_with fail
      go_returns
      exact ⟨rfl, hw⟩

/-! The reference's end of a node. -/
set_option maxRecDepth 100000 in
set_option maxHeartbeats 2000000 in
theorem l04NEnd_out (x : GProgram) (i : Nat) (r : List Value) (lo : Nat) (w : World) (hx : GProgram.R lo w r x) (hi : x.nodes.length ≤ i) :
    Calls Tryz.prog 40 #[.agg r.toArray, .int .i64 i] w fun e w' => e = .returned (.int .i64 (-1)) ∧ Below w.heap.size w w' := by
  obtain ⟨tv, u0, rfl, -, t0, a0⟩ := hx
  obtain ⟨pa, pc, rfl⟩ := a0.form
  have d1 : decide ((x.nodes.length : Int) ≤ i) = true := decide_eq_true (by omega)
  clear a0
  go_enter Tryz.func40, Tryz.ntmps40
  go_wp2
  go_returns
  exact ⟨rfl, by go_grown⟩

theorem endsN (N : List GNode) (f i : Nat) : ends (N.map asD) f i = endsK N.length (kidsAtN N) f i := by
  rw [ends_eq, List.length_map]; rfl

set_option maxRecDepth 100000 in
set_option maxHeartbeats 4000000 in
theorem l04NEnd_c (x : GProgram) (hL : x.nodes.length ≤ 1152921504606846976) : ∀ (f i : Nat) (r : List Value) (lo : Nat) (w : World), GProgram.R lo w r x → x.nodes.length < i + f →
    Calls Tryz.prog 40 #[.agg r.toArray, .int .i64 i] w fun e w' => e = .returned (.int .i64 (endsK x.nodes.length (kidsAtN x.nodes) f i)) ∧ Below w.heap.size w w'
  | 0, i, r, lo, w, hx, hf => by rw [endsK_out (by omega)]; exact l04NEnd_out x i r lo w hx (by omega)
  | f + 1, i, r, lo, w, hx, hf => by
    have ih := l04NEnd_c x hL f
    have Hx := hx
    obtain ⟨tv, u0, rfl, -, t0, a0⟩ := hx
    obtain ⟨pa, pc, rfl⟩ := a0.form
    by_cases hlt : i < x.nodes.length
    · have d1 : decide ((x.nodes.length : Int) ≤ i) = false := decide_eq_false (by omega)
      have d1' : decide (x.nodes.length ≤ i) = false := decide_eq_false (by omega)
      obtain ⟨pa', pc', he, -, -, h0⟩ := a0
      obtain ⟨rfl, rfl⟩ : pa' = pa ∧ pc' = pc := by injection he with a b c; exact ⟨a.symm, c.symm⟩
      obtain ⟨b1, o1, n, s1, _, rfl, P1, q1, r1⟩ := h0.get (Lib.hid rfl) hlt
      obtain ⟨kv, pv, rfl, -, k0, -⟩ := q1
      obtain ⟨ka, kc, rfl, kl, km, k0⟩ := k0
      have hends : endsK x.nodes.length (kidsAtN x.nodes) (f + 1) i = kidsEnd (endsK x.nodes.length (kidsAtN x.nodes) f) (i + 1) n.kids := by conv => lhs; unfold endsK; rw [if_neg (by omega), kidsAtN_get P1.out]
      rw [hends]
      have R1 : w.cell? ⟨b1, o1 + i * 6 + 4, none⟩ = some (.slice ka n.kids.length kc) := by simpa using r1 4 _ rfl
      obtain ⟨m, hm⟩ : ∃ m, m = n.kids.length := ⟨_, rfl⟩
      rw [← hm] at kl R1
      have X1 := Lib.hid hm
      clear hm hends r1 h0
      replace ih := Lib.hid ih
      replace k0 := Lib.hid k0
      obtain ⟨E, hE⟩ : ∃ E : Nat → Int, E = endsK x.nodes.length (kidsAtN x.nodes) f := ⟨_, rfl⟩
      have hEr : ∀ z, 0 ≤ E z → (z : Int) + 1 ≤ E z ∧ E z ≤ x.nodes.length := fun z h => by rw [hE] at h ⊢; exact endsK_range _ _ f z h
      rw [← hE] at ih ⊢
      clear hE
      replace hEr := Lib.hid hEr
      go_enter Tryz.func40, Tryz.ntmps40
      go_upto_region 1 with fail
      have B : RowAt (w.alloc (.cells #[tv, .slice (some ⟨b1, o1, none⟩) x.nodes.length pc'] 29)) (w.heap.size) 0 [tv, .slice (some ⟨b1, o1, none⟩) x.nodes.length pc'] := RowAt.box w #[tv, .slice (some ⟨b1, o1, none⟩) x.nodes.length pc'] 29
      have hw : Below w.heap.size w (w.alloc (.cells #[tv, .slice (some ⟨b1, o1, none⟩) x.nodes.length pc'] 29)) := by go_grown
      generalize (w.alloc (.cells #[tv, .slice (some ⟨b1, o1, none⟩) x.nodes.length pc'] 29)) = w0 at *
      replace R1 := cell_below hw R1
      obtain ⟨b_0, b_1⟩ := B.box2; have hsB := World.block_lt_of_cell? _ _ b_0; dsimp only at hsB
      go_wp2_with fail
      go_loopw [5, 22] (fun nx ii wr => ∃ (j : Nat) (z : Nat), j ≤ m ∧ i + 1 ≤ z ∧ z ≤ x.nodes.length ∧ nx = .int .i64 z ∧ ii = .int .i64 j ∧ Hid (kidsEnd E (i + 1) n.kids = kidsEnd E z (n.kids.drop j)) ∧ Below w.heap.size w wr ∧ RowAt wr w.heap.size 0 [tv, .slice (some ⟨b1, o1, none⟩) x.nodes.length pc']) (fun _ ii _ => m - (intOf ii).toNat)
      case atStart => exact ⟨0, i + 1, by omega, by omega, by omega, by simp, rfl, by simp [Hid], hw, B⟩
      case round =>
        clear b_0 b_1 R1 B hw hsB
        obtain ⟨j, z, hj, hz1, hz2, rfl, rfl, hK, hw, B⟩ := hrel
        obtain ⟨b_0, b_1⟩ := B.box2; have hsB := World.block_lt_of_cell? _ _ b_0; dsimp only at hsB
        by_cases hjm : j < m
        · obtain ⟨b2, o2, k, s2, _, rfl, P2, ⟨rfl, hk64⟩, r2⟩ := ((k0.out.below IntR.good hw).get X1 hjm)
          have e0 : wr.cell? ⟨b2, o2 + j, none⟩ = some (.int .i64 k) := by simpa using r2 0 _ rfl
          have hdrop : n.kids.drop j = k :: n.kids.drop (j + 1) := by
            obtain ⟨hjl, he⟩ := List.getElem?_eq_some_iff.1 P2.out
            rw [List.drop_eq_getElem_cons hjl, he]
          rw [hdrop] at hK
          clear r2 hdrop
          by_cases hkz : k = z
          · subst hkz
            have hK1 : kidsEnd E (z : Int) (((z : Nat) : Int) :: n.kids.drop (j + 1)) = (if E z < 0 then -1 else kidsEnd E (E z) (n.kids.drop (j + 1))) := by
              conv => lhs; unfold kidsEnd
              simp
            rw [Hid, hK1] at hK
            replace hK := Lib.hid hK
            clear hK1
            have c1 := fun W hW => ih.out z [tv, .slice (some ⟨b1, o1, none⟩) x.nodes.length pc'] lo W hW (by omega)
            have hr := hEr.out z
            generalize E z = e at *
            replace hr := Lib.hid hr
            have hd : ((z : Int) != z) = false := by simp
            go_wp2_with fail
            refine (c1 _ (GProgram.good.below Hx hw)).mono ?_
            rintro e' w2 ⟨rfl, hb⟩
            have hw2 := hw.trans (hb.mono hw.size)
            have B2 := B.below hb
            clear hb b_0 b_1 e0 B hw hsB
            by_cases he : e < 0
            · have d2 : decide (e < 0) = true := decide_eq_true he
              rw [Hid, if_pos he] at hK
              replace hK := Lib.hid hK
              clear hr c1 he
              go_wp2
              go_returns
              exact ⟨by rw [hK.out]; rfl, hw2⟩
            · have d2 : decide (e < 0) = false := decide_eq_false he
              rw [Hid, if_neg he] at hK
              have hr' := hr.out (by omega)
              obtain ⟨z', rfl⟩ : ∃ z' : Nat, e = z' := ⟨e.toNat, by omega⟩
              replace hK := Lib.hid hK
              clear hr c1 he
              go_wp2
              go_roundw
              case rel => exact ⟨j + 1, z', by omega, by omega, by omega, rfl, by go_num, hK, hw2, B2⟩
              case measure => simp [intOf]; omega
          · have hK1 : kidsEnd E (z : Int) (k :: n.kids.drop (j + 1)) = -1 := by
              conv => lhs; unfold kidsEnd
              rw [if_pos hkz]
            rw [Hid, hK1] at hK
            replace hK := Lib.hid hK
            clear hK1
            have hd : (k != (z : Int)) = true := by simpa using hkz
            clear hkz
            go_wp2
            go_returns
            exact ⟨by rw [hK.out]; rfl, hw⟩
        · obtain rfl : j = m := by omega
          rw [Hid, X1.out, List.drop_length] at hK
          replace hK := Lib.hid (hK.trans (by unfold kidsEnd; rfl : _ = (z : Int)))
          go_wp2
          go_returns
          exact ⟨by rw [hK.out]; rfl, hw⟩
    · rw [endsK_out (by omega)]; exact l04NEnd_out x i _ lo w Hx (by omega)
end Go.Proofs.YtnmmfcnkpcigoaaGreat
