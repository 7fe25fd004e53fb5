/- Parts of the proof, merged: ProgOk2, Cnt4, Libs. -/
import Derived.Test.YtaimekaagmcmnaaGreatNe35
namespace Go.Proofs.YtaimekaagmcmnaaGreat
open Go.RowKit
set_option linter.unusedVariables false
set_option linter.unusedSimpArgs false
attribute [local go_sem] Ext.cell

set_option maxRecDepth 100000 in
set_option maxHeartbeats 4000000 in
theorem badPatN_c (q : GPat) (hq : q.nodes.length ≤ 1152921504606846976) (r : List Value) (lo : Nat) (w : World) (hr : GPat.R lo w r q) :
    Calls Tryz.prog 47 (#[.agg r.toArray] ++ #[]) w fun e w' => e = .returned (.bool (!patOk (patD q))) ∧ Below w.heap.size w w' := by
  have hR := GPat.toData hr
  obtain ⟨u0, rfl, _, h0⟩ := hr
  obtain ⟨a, c, rfl⟩ := h0.form
  have c1 := fun W (hW : Below w.heap.size w W) => PatOk_c (patD q) (by unfold patD; simp only [List.length_map]; exact hq) _ lo W (GData.good.below hR hW)
  clear h0 hR hq
  generalize patOk (patD q) = k at *
  generalize q.nodes.length = n at *
  replace c1 := Lib.hid c1
  show Calls Tryz.prog 47 #[.agg #[.slice a n c]] w _
  go_enter Tryz.func47, Tryz.ntmps47
  go_upto_region 1 with fail
  have C : RowAt (w.alloc (.cells #[.slice a n c] 83)) (w.heap.size) 0 [.slice a n c] := RowAt.box w #[.slice a n c] 83
  have hw : Below w.heap.size w (w.alloc (.cells #[.slice a n c] 83)) := by go_grown
  generalize (w.alloc (.cells #[.slice a n c] 83)) = w0 at *
  have c_0 := C.box1; have hsC := World.block_lt_of_cell? _ _ c_0; dsimp only at hsC
  go_wp2_with (go_at_call 48; ((with_reducible refine (c1.out _ hw).mono ?_); rintro e w1 ⟨rfl, hb⟩; have hw := hw.trans (hb.mono hw.size); have C := C.below hb; have c_0 := C.box1; have hsC := World.block_lt_of_cell? _ _ c_0; dsimp only at hsC; clear hb))
  go_returns
  exact ⟨rfl, hw⟩

set_option maxRecDepth 100000 in
set_option maxHeartbeats 16000000 in
theorem ProgramOk_c (p : GProgram) (hs : ProgSm p) (r : List Value) (lo : Nat) (w : World) (hr : GProgram.R lo w r p) :
    Calls Tryz.prog 21 #[.agg r.toArray] w fun e w' => e = .returned (.bool (progOk p)) ∧ Below w.heap.size w w' := by
  have cS := fun W (hW : Below w.heap.size w W) => shapeOk_c p hs r lo W (GProgram.good.below hr hW)
  obtain ⟨Ts, N⟩ := p
  obtain ⟨tv, nv, rfl, -, hT, hN⟩ := hr
  obtain ⟨s1, s2, s3, s4⟩ := hs
  have hS : progOk ⟨Ts, N⟩ = (shapeP ⟨Ts, N⟩ && N.all fun x => patsOk x.pats) := rfl
  dsimp only at *
  generalize progOk ⟨Ts, N⟩ = res at *
  generalize shapeP ⟨Ts, N⟩ = sp at *
  obtain ⟨na, nc, rfl, ul, um, h0⟩ := hN
  obtain ⟨n, hn⟩ : ∃ n, n = N.length := ⟨_, rfl⟩
  rw [← hn] at ul cS s1 ⊢
  have hkk : ∀ W, Below w.heap.size w W → SlAt GNode.R 6 lo W na N := fun W hW => h0.below GNode.good hW
  clear hT h0 s3
  replace hn := Lib.hid hn; replace s4 := Lib.hid s4; replace hkk := Lib.hid hkk; replace hS := Lib.hid hS; replace cS := Lib.hid cS
  show Calls Tryz.prog 21 #[.agg #[tv, .slice na n nc]] w _
  cases sp
  · have hr : res = false := hS.out
    subst hr
    clear hS
    go_enter Tryz.func21, Tryz.ntmps21
    go_upto_region 1 with fail
    have D : RowAt (w.alloc (.cells #[tv, .slice na n nc] 32)) (w.heap.size) 0 [tv, .slice na n nc] := RowAt.box w #[tv, .slice na n nc] 32
    have hw : Below w.heap.size w (w.alloc (.cells #[tv, .slice na n nc] 32)) := by go_grown
    generalize (w.alloc (.cells #[tv, .slice na n nc] 32)) = w0 at *
    obtain ⟨d_0, d_1⟩ := D.box2; have hsD := World.block_lt_of_cell? _ _ d_0; dsimp only at hsD
    go_wp2_with (go_at_call 43; ((with_reducible refine (cS.out _ hw).mono ?_); rintro e w1 ⟨rfl, hb⟩; have hw := hw.trans (hb.mono hw.size); have D := D.below hb; obtain ⟨d_0, d_1⟩ := D.box2; have hsD := World.block_lt_of_cell? _ _ d_0; dsimp only at hsD; clear hb))
    go_returns
    exact ⟨rfl, hw⟩
  replace hS : Hid (res = N.all fun x => patsOk x.pats) := hS
  go_enter Tryz.func21, Tryz.ntmps21
  go_upto_region 1 with fail
  have D : RowAt (w.alloc (.cells #[tv, .slice na n nc] 32)) (w.heap.size) 0 [tv, .slice na n nc] := RowAt.box w #[tv, .slice na n nc] 32
  have hw : Below w.heap.size w (w.alloc (.cells #[tv, .slice na n nc] 32)) := by go_grown
  generalize (w.alloc (.cells #[tv, .slice na n nc] 32)) = w0 at *
  obtain ⟨d_0, d_1⟩ := D.box2; have hsD := World.block_lt_of_cell? _ _ d_0; dsimp only at hsD
  go_wp2_with (go_at_call 43; ((with_reducible refine (cS.out _ hw).mono ?_); rintro e w1 ⟨rfl, hb⟩; have hw := hw.trans (hb.mono hw.size); have D := D.below hb; obtain ⟨d_0, d_1⟩ := D.box2; have hsD := World.block_lt_of_cell? _ _ d_0; dsimp only at hsD; clear hb))
  go_loopw [11] (fun ii wr => ∃ k : Nat, k ≤ n ∧ ii = .int .i64 k ∧ Hid (∀ y ∈ N.take k, patsOk y.pats = true) ∧ Below w.heap.size w wr ∧ RowAt wr w.heap.size 0 [tv, .slice na n nc]) (fun ii _ => n - (intOf ii).toNat)
  case atStart => exact ⟨0, by omega, rfl, fun y hy => by simp at hy, hw, D⟩
  case round =>
    clear hw D d_0 d_1 hsD
    obtain ⟨k, hk, rfl, hF, hw, D⟩ := hrel
    have hsz := hw.size
    obtain ⟨d_0, d_1⟩ := D.box2; have hsD := World.block_lt_of_cell? _ _ d_0; dsimp only at hsD
    by_cases hlt : k < n
    · obtain ⟨b1, o1, x, r, _, rfl, P1, hx, r1⟩ := (hkk.out _ hw).get hn.out hlt
      have P1' := P1.out
      have hxs := s4.out x (List.mem_of_getElem? P1')
      have hgood := fun h => all_stepL (f := fun (x : GNode) => patsOk x.pats) hF.out P1' h
      have hbadp : patsOk x.pats = false → res = false := fun h => by rw [hS.out]; exact all_bad (f := fun (x : GNode) => patsOk x.pats) P1' h
      obtain ⟨v0, v1, rfl, hwf, hk0, hp0⟩ := hx
      have H4 := fun W (hW : Below wr.heap.size wr W) => containsFuncPat_c x.pats (fun q => !patOk (patD q)) 47 #[] lo v1 W (hp0.below GPat.good hW) (fun i q r W' hi hW' hx => badPatN_c q (hxs.2 q (List.mem_of_getElem? hi)) r lo W' hx) (fun _ _ => by kernel_rfl)
      have hany : x.pats.any (fun q => !patOk (patD q)) = !patsOk x.pats := by rw [← List.not_all_eq_any_not]; rfl
      rw [hany] at H4
      generalize patsOk x.pats = q at *
      obtain ⟨kd, at_, nn, s, ks, ps⟩ := x
      obtain ⟨pa, pc, rfl⟩ := hp0.form
      obtain ⟨ka, kc, rfl⟩ := hk0.form
      dsimp only at *
      obtain ⟨e_0, e_1, e_2, e_3, e_4, e_5⟩ := r1.cells6
      have hbb1 := World.block_lt_of_cell? _ _ e_0; dsimp only at hbb1
      clear hk0 hp0 hwf r1 P1 P1' hxs hF hany
      generalize ps.length = pm at *
      generalize ks.length = m at *
      replace hgood := Lib.hid hgood; replace hbadp := Lib.hid hbadp; replace H4 := Lib.hid H4
      go_upto_region 6 with fail
      have hb1 : Below wr.heap.size wr (wr.alloc (.cells #[.int .i64 kd, .int .i64 at_, .int .i64 nn, .string s, .slice ka m kc, .slice pa pm pc] 74)) := by go_grown
      have E : RowAt (wr.alloc (.cells #[.int .i64 kd, .int .i64 at_, .int .i64 nn, .string s, .slice ka m kc, .slice pa pm pc] 74)) wr.heap.size 0 [.int .i64 kd, .int .i64 at_, .int .i64 nn, .string s, .slice ka m kc, .slice pa pm pc] := RowAt.box _ _ _
      have hw' := hw.trans (hb1.mono hsz)
      have D' := D.below hb1
      have cN' := H4.out _ hb1
      generalize wr.alloc (.cells #[.int .i64 kd, .int .i64 at_, .int .i64 nn, .string s, .slice ka m kc, .slice pa pm pc] 74) = w2 at *
      clear hw D d_0 d_1 hsD e_0 e_1 e_2 e_3 e_4 e_5 hb1 H4
      have hw := hw'; have D := D'
      clear hw' D'
      replace cN' := Lib.hid cN'
      obtain ⟨d_0, d_1⟩ := D.box2; have hsD := World.block_lt_of_cell? _ _ d_0; dsimp only at hsD; obtain ⟨e_0, e_1, e_2, e_3, e_4, e_5⟩ := E.box6; have hsE := World.block_lt_of_cell? _ _ e_0; dsimp only at hsE
      cases q
      · have hr := hbadp.out rfl
        subst hr
        clear hbadp hgood hS
        go_wp2_with (go_at_call 46; ((with_reducible refine (cN'.out).mono ?_); rintro e w1 ⟨rfl, hb⟩; have hw := hw.trans (hb.mono hw.size); have D := D.below hb; obtain ⟨d_0, d_1⟩ := D.box2; have hsD := World.block_lt_of_cell? _ _ d_0; dsimp only at hsD; have E := E.below hb; obtain ⟨e_0, e_1, e_2, e_3, e_4, e_5⟩ := E.box6; have hsE := World.block_lt_of_cell? _ _ e_0; dsimp only at hsE; clear hb))
        go_returns
        exact ⟨rfl, hw⟩
      · have hF := Lib.hid (hgood.out rfl)
        clear hbadp hgood
        go_wp2_with (go_at_call 46; ((with_reducible refine (cN'.out).mono ?_); rintro e w1 ⟨rfl, hb⟩; have hw := hw.trans (hb.mono hw.size); have D := D.below hb; obtain ⟨d_0, d_1⟩ := D.box2; have hsD := World.block_lt_of_cell? _ _ d_0; dsimp only at hsD; have E := E.below hb; obtain ⟨e_0, e_1, e_2, e_3, e_4, e_5⟩ := E.box6; have hsE := World.block_lt_of_cell? _ _ e_0; dsimp only at hsE; clear hb))
        go_roundw
        case rel => exact ⟨k + 1, by omega, by go_num, hF, hw, D⟩
        case measure => simp [intOf]; omega
    · obtain rfl : k = n := by omega
      have hr : res = true := by rw [hS.out]; exact all_full (f := fun (x : GNode) => patsOk x.pats) hF.out hn.out
      subst hr
      clear hF hS
      go_wp2_with fail
      go_returns
      exact ⟨rfl, hw⟩

/-! The reference's end of a node. -/
set_option maxRecDepth 100000 in
set_option maxHeartbeats 2000000 in
theorem l04NEnd_out (x : GProgram) (i : Nat) (r : List Value) (lo : Nat) (w : World) (hx : GProgram.R lo w r x) (hi : x.nodes.length ≤ i) :
    Calls Tryz.prog 37 #[.agg r.toArray, .int .i64 i] w fun e w' => e = .returned (.int .i64 (-1)) ∧ Below w.heap.size w w' := by
  obtain ⟨tv, u0, rfl, -, t0, a0⟩ := hx
  obtain ⟨pa, pc, rfl⟩ := a0.form
  have d1 : decide ((x.nodes.length : Int) ≤ i) = true := decide_eq_true (by omega)
  clear a0
  go_enter Tryz.func37, Tryz.ntmps37
  go_wp2
  go_returns
  exact ⟨rfl, by go_grown⟩

set_option maxRecDepth 100000 in
set_option maxHeartbeats 4000000 in
theorem l04NEnd_c (x : GProgram) (hL : x.nodes.length ≤ 1152921504606846976) : ∀ (f i : Nat) (r : List Value) (lo : Nat) (w : World), GProgram.R lo w r x → x.nodes.length < i + f →
    Calls Tryz.prog 37 #[.agg r.toArray, .int .i64 i] w fun e w' => e = .returned (.int .i64 (endsK x.nodes.length (kidsAtN x.nodes) f i)) ∧ Below w.heap.size w w'
  | 0, i, r, lo, w, hx, hf => by rw [endsK_out (by omega)]; exact l04NEnd_out x i r lo w hx (by omega)
  | f + 1, i, r, lo, w, hx, hf => by
    have ih := l04NEnd_c x hL f
    have Hx := hx
    obtain ⟨tv, u0, rfl, -, t0, a0⟩ := hx
    obtain ⟨pa, pc, rfl⟩ := a0.form
    by_cases hlt : i < x.nodes.length
    · have d1 : decide ((x.nodes.length : Int) ≤ i) = false := decide_eq_false (by omega)
      have d1' : decide (x.nodes.length ≤ i) = false := decide_eq_false (by omega)
      obtain ⟨pa', pc', he, -, -, h0⟩ := a0
      obtain ⟨rfl, rfl⟩ : pa' = pa ∧ pc' = pc := by injection he with a b c; exact ⟨a.symm, c.symm⟩
      obtain ⟨b1, o1, n, s1, _, rfl, P1, q1, r1⟩ := h0.get (Lib.hid rfl) hlt
      obtain ⟨kv, pv, rfl, -, k0, -⟩ := q1
      obtain ⟨ka, kc, rfl, kl, km, k0⟩ := k0
      have hends : endsK x.nodes.length (kidsAtN x.nodes) (f + 1) i = kidsEnd (endsK x.nodes.length (kidsAtN x.nodes) f) (i + 1) n.kids := by conv => lhs; unfold endsK; rw [if_neg (by omega), kidsAtN_get P1.out]
      rw [hends]
      have R1 : w.cell? ⟨b1, o1 + i * 6 + 4, none⟩ = some (.slice ka n.kids.length kc) := by simpa using r1 4 _ rfl
      obtain ⟨m, hm⟩ : ∃ m, m = n.kids.length := ⟨_, rfl⟩
      rw [← hm] at kl R1
      have X1 := Lib.hid hm
      clear hm hends r1 h0
      replace ih := Lib.hid ih
      replace k0 := Lib.hid k0
      obtain ⟨E, hE⟩ : ∃ E : Nat → Int, E = endsK x.nodes.length (kidsAtN x.nodes) f := ⟨_, rfl⟩
      have hEr : ∀ z, 0 ≤ E z → (z : Int) + 1 ≤ E z ∧ E z ≤ x.nodes.length := fun z h => by rw [hE] at h ⊢; exact endsK_range _ _ f z h
      rw [← hE] at ih ⊢
      clear hE
      replace hEr := Lib.hid hEr
      go_enter Tryz.func37, Tryz.ntmps37
      go_upto_region 1 with fail
      have B : RowAt (w.alloc (.cells #[tv, .slice (some ⟨b1, o1, none⟩) x.nodes.length pc'] 32)) (w.heap.size) 0 [tv, .slice (some ⟨b1, o1, none⟩) x.nodes.length pc'] := RowAt.box w #[tv, .slice (some ⟨b1, o1, none⟩) x.nodes.length pc'] 32
      have hw : Below w.heap.size w (w.alloc (.cells #[tv, .slice (some ⟨b1, o1, none⟩) x.nodes.length pc'] 32)) := by go_grown
      generalize (w.alloc (.cells #[tv, .slice (some ⟨b1, o1, none⟩) x.nodes.length pc'] 32)) = w0 at *
      replace R1 := cell_below hw R1
      obtain ⟨b_0, b_1⟩ := B.box2; have hsB := World.block_lt_of_cell? _ _ b_0; dsimp only at hsB
      go_wp2_with fail
      go_loopw [5, 22] (fun nx ii wr => ∃ (j : Nat) (z : Nat), j ≤ m ∧ i + 1 ≤ z ∧ z ≤ x.nodes.length ∧ nx = .int .i64 z ∧ ii = .int .i64 j ∧ Hid (kidsEnd E (i + 1) n.kids = kidsEnd E z (n.kids.drop j)) ∧ Below w.heap.size w wr ∧ RowAt wr w.heap.size 0 [tv, .slice (some ⟨b1, o1, none⟩) x.nodes.length pc']) (fun _ ii _ => m - (intOf ii).toNat)
      case atStart => exact ⟨0, i + 1, by omega, by omega, by omega, by simp, rfl, by simp [Hid], hw, B⟩
      case round =>
        clear b_0 b_1 R1 B hw hsB
        obtain ⟨j, z, hj, hz1, hz2, rfl, rfl, hK, hw, B⟩ := hrel
        obtain ⟨b_0, b_1⟩ := B.box2; have hsB := World.block_lt_of_cell? _ _ b_0; dsimp only at hsB
        by_cases hjm : j < m
        · obtain ⟨b2, o2, k, s2, _, rfl, P2, ⟨rfl, hk64⟩, r2⟩ := ((k0.out.below IntR.good hw).get X1 hjm)
          have e0 : wr.cell? ⟨b2, o2 + j, none⟩ = some (.int .i64 k) := by simpa using r2 0 _ rfl
          have hdrop : n.kids.drop j = k :: n.kids.drop (j + 1) := by
            obtain ⟨hjl, he⟩ := List.getElem?_eq_some_iff.1 P2.out
            rw [List.drop_eq_getElem_cons hjl, he]
          rw [hdrop] at hK
          clear r2 hdrop
          by_cases hkz : k = z
          · subst hkz
            have hK1 : kidsEnd E (z : Int) (((z : Nat) : Int) :: n.kids.drop (j + 1)) = (if E z < 0 then -1 else kidsEnd E (E z) (n.kids.drop (j + 1))) := by
              conv => lhs; unfold kidsEnd
              simp
            rw [Hid, hK1] at hK
            replace hK := Lib.hid hK
            clear hK1
            have c1 := fun W hW => ih.out z [tv, .slice (some ⟨b1, o1, none⟩) x.nodes.length pc'] lo W hW (by omega)
            have hr := hEr.out z
            generalize E z = e at *
            replace hr := Lib.hid hr
            have hd : ((z : Int) != z) = false := by simp
            go_wp2_with fail
            refine (c1 _ (GProgram.good.below Hx hw)).mono ?_
            rintro e' w2 ⟨rfl, hb⟩
            have hw2 := hw.trans (hb.mono hw.size)
            have B2 := B.below hb
            clear hb b_0 b_1 e0 B hw hsB
            by_cases he : e < 0
            · have d2 : decide (e < 0) = true := decide_eq_true he
              rw [Hid, if_pos he] at hK
              replace hK := Lib.hid hK
              clear hr c1 he
              go_wp2
              go_returns
              exact ⟨by rw [hK.out]; rfl, hw2⟩
            · have d2 : decide (e < 0) = false := decide_eq_false he
              rw [Hid, if_neg he] at hK
              have hr' := hr.out (by omega)
              obtain ⟨z', rfl⟩ : ∃ z' : Nat, e = z' := ⟨e.toNat, by omega⟩
              replace hK := Lib.hid hK
              clear hr c1 he
              go_wp2
              go_roundw
              case rel => exact ⟨j + 1, z', by omega, by omega, by omega, rfl, by go_num, hK, hw2, B2⟩
              case measure => simp [intOf]; omega
          · have hK1 : kidsEnd E (z : Int) (k :: n.kids.drop (j + 1)) = -1 := by
              conv => lhs; unfold kidsEnd
              rw [if_pos hkz]
            rw [Hid, hK1] at hK
            replace hK := Lib.hid hK
            clear hK1
            have hd : (k != (z : Int)) = true := by simpa using hkz
            clear hkz
            go_wp2
            go_returns
            exact ⟨by rw [hK.out]; rfl, hw⟩
        · obtain rfl : j = m := by omega
          rw [Hid, X1.out, List.drop_length] at hK
          replace hK := Lib.hid (hK.trans (by unfold kidsEnd; rfl : _ = (z : Int)))
          go_wp2
          go_returns
          exact ⟨by rw [hK.out]; rfl, hw⟩
    · rw [endsK_out (by omega)]; exact l04NEnd_out x i _ lo w Hx (by omega)
structure TreeOf (p : GProgram) (x : ExT) : Prop where
  ok : progOk p = true
  sm : ProgSm p
  laid : Laid p.nodes 0 x
  n : p.nodes.length ≤ 600
  pats : ∀ y ∈ p.nodes, PatsSm y.pats
  tree : okE x = true
theorem TreeOf.pos {p : GProgram} {x : ExT} (h : TreeOf p x) : 0 < p.nodes.length := by
  have := h.laid 0 _ (List.getElem?_eq_getElem (by rw [layE_len]; exact szE_pos x))
  have := (List.getElem?_eq_some_iff.1 this).1
  omega
theorem TreeOf.sz {p : GProgram} {x : ExT} (h : TreeOf p x) : szE x ≤ 600 := by
  have hp := szE_pos x
  have := h.laid (szE x - 1) _ (List.getElem?_eq_getElem (by rw [layE_len]; omega))
  have := (List.getElem?_eq_some_iff.1 this).1
  have := h.n
  omega

set_option maxRecDepth 100000 in
set_option maxHeartbeats 8000000 in
theorem Occurs_c (p : GProgram) (x : ExT) (hx : TreeOf p x) (name : ByteArray) (r : List Value) (lo : Nat) (w : World) (hr : GProgram.R lo w r p) :
    Calls Tryz.prog 55 #[.agg r.toArray, .int .i64 0, .string name] w fun e w' => e = .returned (.int .i64 (countE name x : Int)) ∧ Below w.heap.size w w' := by
  have cP := fun W (hW : Below w.heap.size w W) => ProgramOk_c p hx.sm r lo W (GProgram.good.below hr hW)
  rw [hx.ok] at cP
  have hn1 := hx.n
  have hpos := hx.pos
  have hszx := hx.sz
  have hok := hx.tree
  have hg := fun nv lo W (hW : Sl GNode.R 6 lo W nv p.nodes) => grow_c p.nodes hx.n hx.pats (szE x) x 0 nv lo W (Nat.le_refl _) hx.laid hW
  obtain ⟨Ts, N⟩ := p
  obtain ⟨tv, nv, rfl, -, hT, hN⟩ := hr
  dsimp only at *
  have hNb := fun W (hW : Below w.heap.size w W) => hN.below GNode.good hW
  obtain ⟨na, nc, rfl⟩ := hN.form
  obtain ⟨ta, tc, rfl⟩ := hT.form
  generalize Ts.length = tn at *
  obtain ⟨n, hn⟩ : ∃ n, n = N.length := ⟨_, rfl⟩
  rw [← hn] at hn1 hpos cP hNb ⊢
  have cG := fun W (hW : Below w.heap.size w W) => hg _ lo W (hNb W hW)
  replace cG : ∀ W, Below w.heap.size w W → Calls Tryz.prog 90 #[.slice na n nc, .int .i64 0] W (GrPost x W) := cG
  have cC := fun (W : World) q F (hX : ExR F (fun g => w.heap.size ≤ g) W (.pointer (some ⟨q, 0, none⟩)) x) => count_c name F x _ _ W hX hok hszx
  have dw : decide ((0 : Int) ≤ 0 ∧ (0 : Int) ≤ (n : Int) - 1) = true := decide_eq_true (by omega)
  have hwr : IntKind.i64.wrap ((n : Int) - 1) = (n : Int) - 1 := IntWalk.i64_in _ (by omega)
  generalize hcx : countE name x = cx at *
  clear hT hN hNb hg
  replace cP : ∀ W, Below w.heap.size w W → Calls Tryz.prog 21 #[.agg #[.slice ta tn tc, .slice na n nc]] W fun e w' => e = .returned (.bool true) ∧ Below W.heap.size W w' := cP
  replace cP := Lib.hid cP; replace cG := Lib.hid cG; replace cC := Lib.hid cC; replace hn := Lib.hid hn; replace hok := Lib.hid hok; replace hcx := Lib.hid hcx; replace hx := Lib.hid hx
  show Calls Tryz.prog 55 #[.agg #[.slice ta tn tc, .slice na n nc], .int .i64 0, .string name] w _
  go_enter Tryz.func55, Tryz.ntmps55
  go_upto_region 1 with fail
  have D : RowAt (w.alloc (.cells #[.slice ta tn tc, .slice na n nc] 32)) (w.heap.size) 0 [.slice ta tn tc, .slice na n nc] := RowAt.box w #[.slice ta tn tc, .slice na n nc] 32
  have hw : Below w.heap.size w (w.alloc (.cells #[.slice ta tn tc, .slice na n nc] 32)) := by go_grown
  generalize (w.alloc (.cells #[.slice ta tn tc, .slice na n nc] 32)) = w0 at *
  obtain ⟨d_0, d_1⟩ := D.box2; have hsD := World.block_lt_of_cell? _ _ d_0; dsimp only at hsD
  have hc := within_c 0 0 ((n : Int) - 1)
  rw [dw] at hc
  replace hc := Lib.hid hc
  go_upto_region 3 with (first | (go_at_call 21; ((with_reducible refine (cP.out _ hw).mono ?_); rintro e w1 ⟨rfl, hb⟩; have hw := hw.trans (hb.mono hw.size); have D := D.below hb; obtain ⟨d_0, d_1⟩ := D.box2; have hsD := World.block_lt_of_cell? _ _ d_0; dsimp only at hsD; clear hb)) | (go_at_call 75; (with_reducible refine (hc.out _).mono ?_); rintro e w1 ⟨rfl, rfl⟩))
  go_wp2_with (first
    | (go_at_call 90; (with_reducible refine (cG.out _ hw).mono ?_); rintro e w2 ⟨q2, F2, rfl, X2, hb2⟩; have X3 := ExR.to X2 (Same.below (Below.refl _ _)) (fun g h1 _ => Nat.le_trans hw.size h1); clear X2; have hw2 := hw.trans (hb2.mono hw.size))
    | (go_at_call 91; (with_reducible refine (cC.out _ _ _ X3).mono ?_); rintro e w3 ⟨rfl, hb3⟩))
  go_returns
  exact ⟨rfl, hw2.trans (hb3.mono hw2.size)⟩

set_option maxRecDepth 100000 in
set_option maxHeartbeats 8000000 in
theorem FreeIn_c (p : GProgram) (x : ExT) (hx : TreeOf p x) (name : ByteArray) (r : List Value) (lo : Nat) (w : World) (hr : GProgram.R lo w r p) :
    Calls Tryz.prog 26 #[.agg r.toArray, .int .i64 0, .string name] w fun e w' => e = .returned (.bool (decide (0 < countE name x))) ∧ Below w.heap.size w w' := by
  have cO := fun W (hW : Below w.heap.size w W) => Occurs_c p x hx name r lo W (GProgram.good.below hr hW)
  obtain ⟨tv, nv, rfl, -, hT, hN⟩ := hr
  generalize countE name x = cx at *
  have d1 : decide ((0 : Int) < (cx : Int)) = decide (0 < cx) := by congr 1; exact propext (by omega)
  clear hT hN
  replace cO : ∀ W, Below w.heap.size w W → Calls Tryz.prog 55 #[.agg #[tv, nv], .int .i64 0, .string name] W fun e w' => e = .returned (.int .i64 (cx : Int)) ∧ Below W.heap.size W w' := cO
  replace cO := Lib.hid cO
  generalize hd : decide (0 < cx) = dd at *
  replace hd := Lib.hid hd
  show Calls Tryz.prog 26 #[.agg #[tv, nv], .int .i64 0, .string name] w _
  go_enter Tryz.func26, Tryz.ntmps26
  go_upto_region 1 with fail
  have D : RowAt (w.alloc (.cells #[tv, nv] 32)) (w.heap.size) 0 [tv, nv] := RowAt.box w #[tv, nv] 32
  have hw : Below w.heap.size w (w.alloc (.cells #[tv, nv] 32)) := by go_grown
  generalize (w.alloc (.cells #[tv, nv] 32)) = w0 at *
  obtain ⟨d_0, d_1⟩ := D.box2; have hsD := World.block_lt_of_cell? _ _ d_0; dsimp only at hsD
  go_wp2_with (go_at_call 55; ((with_reducible refine (cO.out _ hw).mono ?_); rintro e w1 ⟨rfl, hb⟩; have hw := hw.trans (hb.mono hw.size); have D := D.below hb; obtain ⟨d_0, d_1⟩ := D.box2; have hsD := World.block_lt_of_cell? _ _ d_0; dsimp only at hsD; clear hb))
  go_returns
  exact ⟨by have h := hd.out; subst h; rfl, hw⟩
def ln_id : ByteArray := ⟨#[105, 100]⟩
def lt_id : ByteArray := ⟨#[102, 117, 110, 32, 120, 32, 45, 62, 32, 120]⟩
def ln_both : ByteArray := ⟨#[98, 111, 116, 104]⟩
def lt_both : ByteArray := ⟨#[102, 117, 110, 32, 102, 32, 45, 62, 32, 102, 117, 110, 32, 112, 32, 45, 62, 32, 109, 97, 116, 99, 104, 32, 112, 32, 119, 105, 116, 104, 32, 40, 97, 44, 32, 98, 41, 32, 45, 62, 32, 102, 32, 97, 32, 98, 32, 101, 110, 100]⟩
def ln_not : ByteArray := ⟨#[110, 111, 116]⟩
def lt_not : ByteArray := ⟨#[102, 117, 110, 32, 98, 32, 45, 62, 32, 105, 102, 32, 98, 32, 116, 104, 101, 110, 32, 102, 97, 108, 115, 101, 32, 101, 108, 115, 101, 32, 116, 114, 117, 101]⟩
def ln_abs : ByteArray := ⟨#[97, 98, 115]⟩
def lt_abs : ByteArray := ⟨#[102, 117, 110, 32, 110, 32, 45, 62, 32, 105, 102, 32, 110, 32, 60, 32, 48, 32, 116, 104, 101, 110, 32, 48, 32, 45, 32, 110, 32, 101, 108, 115, 101, 32, 110]⟩
def ln_len : ByteArray := ⟨#[108, 101, 110]⟩
def lt_len : ByteArray := ⟨#[102, 117, 110, 32, 108, 32, 45, 62, 32, 109, 97, 116, 99, 104, 32, 108, 32, 119, 105, 116, 104, 32, 91, 93, 32, 45, 62, 32, 48, 32, 124, 32, 120, 32, 58, 58, 32, 114, 32, 45, 62, 32, 49, 32, 43, 32, 108, 101, 110, 32, 114, 32, 101, 110, 100]⟩
def ln_app : ByteArray := ⟨#[97, 112, 112]⟩
def lt_app : ByteArray := ⟨#[102, 117, 110, 32, 97, 32, 45, 62, 32, 102, 117, 110, 32, 98, 32, 45, 62, 32, 109, 97, 116, 99, 104, 32, 97, 32, 119, 105, 116, 104, 32, 91, 93, 32, 45, 62, 32, 98, 32, 124, 32, 120, 32, 58, 58, 32, 114, 32, 45, 62, 32, 120, 32, 58, 58, 32, 97, 112, 112, 32, 114, 32, 98, 32, 101, 110, 100]⟩
def ln_rev : ByteArray := ⟨#[114, 101, 118]⟩
def lt_rev : ByteArray := ⟨#[102, 117, 110, 32, 108, 32, 45, 62, 32, 109, 97, 116, 99, 104, 32, 108, 32, 119, 105, 116, 104, 32, 91, 93, 32, 45, 62, 32, 91, 93, 32, 124, 32, 120, 32, 58, 58, 32, 114, 32, 45, 62, 32, 97, 112, 112, 32, 40, 114, 101, 118, 32, 114, 41, 32, 40, 120, 32, 58, 58, 32, 91, 93, 41, 32, 101, 110, 100]⟩
def ln_map : ByteArray := ⟨#[109, 97, 112]⟩
def lt_map : ByteArray := ⟨#[102, 117, 110, 32, 102, 32, 45, 62, 32, 102, 117, 110, 32, 108, 32, 45, 62, 32, 109, 97, 116, 99, 104, 32, 108, 32, 119, 105, 116, 104, 32, 91, 93, 32, 45, 62, 32, 91, 93, 32, 124, 32, 120, 32, 58, 58, 32, 114, 32, 45, 62, 32, 102, 32, 120, 32, 58, 58, 32, 109, 97, 112, 32, 102, 32, 114, 32, 101, 110, 100]⟩
def ln_fold : ByteArray := ⟨#[102, 111, 108, 100]⟩
def lt_fold : ByteArray := ⟨#[102, 117, 110, 32, 102, 32, 45, 62, 32, 102, 117, 110, 32, 97, 32, 45, 62, 32, 102, 117, 110, 32, 108, 32, 45, 62, 32, 109, 97, 116, 99, 104, 32, 108, 32, 119, 105, 116, 104, 32, 91, 93, 32, 45, 62, 32, 97, 32, 124, 32, 120, 32, 58, 58, 32, 114, 32, 45, 62, 32, 102, 111, 108, 100, 32, 102, 32, 40, 102, 32, 97, 32, 120, 41, 32, 114, 32, 101, 110, 100]⟩
def ln_sum : ByteArray := ⟨#[115, 117, 109]⟩
def lt_sum : ByteArray := ⟨#[102, 117, 110, 32, 108, 32, 45, 62, 32, 102, 111, 108, 100, 32, 40, 102, 117, 110, 32, 97, 32, 45, 62, 32, 102, 117, 110, 32, 98, 32, 45, 62, 32, 97, 32, 43, 32, 98, 41, 32, 48, 32, 108]⟩
def ln_each : ByteArray := ⟨#[101, 97, 99, 104]⟩
def lt_each : ByteArray := ⟨#[102, 117, 110, 32, 102, 32, 45, 62, 32, 102, 117, 110, 32, 108, 32, 45, 62, 32, 109, 97, 116, 99, 104, 32, 108, 32, 119, 105, 116, 104, 32, 91, 93, 32, 45, 62, 32, 40, 41, 32, 124, 32, 120, 32, 58, 58, 32, 114, 32, 45, 62, 32, 102, 32, 120, 59, 32, 101, 97, 99, 104, 32, 102, 32, 114, 32, 101, 110, 100]⟩
def ln_upto : ByteArray := ⟨#[117, 112, 116, 111]⟩
def lt_upto : ByteArray := ⟨#[102, 117, 110, 32, 110, 32, 45, 62, 32, 105, 102, 32, 110, 32, 60, 32, 49, 32, 116, 104, 101, 110, 32, 91, 93, 32, 101, 108, 115, 101, 32, 97, 112, 112, 32, 40, 117, 112, 116, 111, 32, 40, 110, 32, 45, 32, 49, 41, 41, 32, 40, 110, 32, 58, 58, 32, 91, 93, 41]⟩
def ln_shows : ByteArray := ⟨#[115, 104, 111, 119, 115]⟩
def lt_shows : ByteArray := ⟨#[102, 117, 110, 32, 108, 32, 45, 62, 32, 101, 97, 99, 104, 32, 112, 114, 105, 110, 116, 32, 108]⟩
def libFunP (s : ByteArray) : ByteArray := if eqS s ln_id then lt_id else if eqS s ln_both then lt_both else if eqS s ln_not then lt_not else if eqS s ln_abs then lt_abs else if eqS s ln_len then lt_len else if eqS s ln_app then lt_app else if eqS s ln_rev then lt_rev else if eqS s ln_map then lt_map else if eqS s ln_fold then lt_fold else if eqS s ln_sum then lt_sum else if eqS s ln_each then lt_each else if eqS s ln_upto then lt_upto else if eqS s ln_shows then lt_shows else ⟨#[]⟩
def treeL (l : List UInt8) : Option ExT :=
  (lexL 200 0 l []).bind fun L => if 4000 < L.length ∨ eqS (sgn (tokAt L l.length 0)) qType = true then none else ((pfsG L l.length 200).expr 0 0 []).bind fun o =>
    if o.i = L.length ∧ szE o.t ≤ 600 ∧ progOk ⟨[], layE 0 o.t⟩ = true ∧ okE o.t = true ∧ ((layE 0 o.t).all fun y => decide (y.pats.length ≤ 600) && y.pats.all fun q => decide (q.nodes.length ≤ 600) && q.nodes.all fun z => decide (z.kids.length ≤ 600)) = true then some o.t else none

set_option maxRecDepth 100000
theorem lp_id : (treeL lt_id.data.toList).isSome = true := by kernel_rfl
theorem lp_both : (treeL lt_both.data.toList).isSome = true := by kernel_rfl
theorem lp_not : (treeL lt_not.data.toList).isSome = true := by kernel_rfl
theorem lp_abs : (treeL lt_abs.data.toList).isSome = true := by kernel_rfl
theorem lp_len : (treeL lt_len.data.toList).isSome = true := by kernel_rfl
theorem lp_app : (treeL lt_app.data.toList).isSome = true := by kernel_rfl
theorem lp_rev : (treeL lt_rev.data.toList).isSome = true := by kernel_rfl
theorem lp_map : (treeL lt_map.data.toList).isSome = true := by kernel_rfl
theorem lp_fold : (treeL lt_fold.data.toList).isSome = true := by kernel_rfl
theorem lp_sum : (treeL lt_sum.data.toList).isSome = true := by kernel_rfl
theorem lp_each : (treeL lt_each.data.toList).isSome = true := by kernel_rfl
theorem lp_upto : (treeL lt_upto.data.toList).isSome = true := by kernel_rfl
theorem lp_shows : (treeL lt_shows.data.toList).isSome = true := by kernel_rfl
theorem libFun_some {s : ByteArray} (h : libFunP s ≠ ⟨#[]⟩) : ∃ x, treeL (libFunP s).data.toList = some x := by
  unfold libFunP at h ⊢
  by_cases e_id : eqS s ln_id = true
  · rw [if_pos e_id]; exact Option.isSome_iff_exists.1 lp_id
  rw [if_neg e_id] at h ⊢
  by_cases e_both : eqS s ln_both = true
  · rw [if_pos e_both]; exact Option.isSome_iff_exists.1 lp_both
  rw [if_neg e_both] at h ⊢
  by_cases e_not : eqS s ln_not = true
  · rw [if_pos e_not]; exact Option.isSome_iff_exists.1 lp_not
  rw [if_neg e_not] at h ⊢
  by_cases e_abs : eqS s ln_abs = true
  · rw [if_pos e_abs]; exact Option.isSome_iff_exists.1 lp_abs
  rw [if_neg e_abs] at h ⊢
  by_cases e_len : eqS s ln_len = true
  · rw [if_pos e_len]; exact Option.isSome_iff_exists.1 lp_len
  rw [if_neg e_len] at h ⊢
  by_cases e_app : eqS s ln_app = true
  · rw [if_pos e_app]; exact Option.isSome_iff_exists.1 lp_app
  rw [if_neg e_app] at h ⊢
  by_cases e_rev : eqS s ln_rev = true
  · rw [if_pos e_rev]; exact Option.isSome_iff_exists.1 lp_rev
  rw [if_neg e_rev] at h ⊢
  by_cases e_map : eqS s ln_map = true
  · rw [if_pos e_map]; exact Option.isSome_iff_exists.1 lp_map
  rw [if_neg e_map] at h ⊢
  by_cases e_fold : eqS s ln_fold = true
  · rw [if_pos e_fold]; exact Option.isSome_iff_exists.1 lp_fold
  rw [if_neg e_fold] at h ⊢
  by_cases e_sum : eqS s ln_sum = true
  · rw [if_pos e_sum]; exact Option.isSome_iff_exists.1 lp_sum
  rw [if_neg e_sum] at h ⊢
  by_cases e_each : eqS s ln_each = true
  · rw [if_pos e_each]; exact Option.isSome_iff_exists.1 lp_each
  rw [if_neg e_each] at h ⊢
  by_cases e_upto : eqS s ln_upto = true
  · rw [if_pos e_upto]; exact Option.isSome_iff_exists.1 lp_upto
  rw [if_neg e_upto] at h ⊢
  by_cases e_shows : eqS s ln_shows = true
  · rw [if_pos e_shows]; exact Option.isSome_iff_exists.1 lp_shows
  rw [if_neg e_shows] at h ⊢
  exact absurd rfl h
theorem libFun_len (s : ByteArray) : (libFunP s).size ≤ 200 := by
  unfold libFunP
  by_cases e_id : eqS s ln_id = true
  · rw [if_pos e_id]; decide
  rw [if_neg e_id]
  by_cases e_both : eqS s ln_both = true
  · rw [if_pos e_both]; decide
  rw [if_neg e_both]
  by_cases e_not : eqS s ln_not = true
  · rw [if_pos e_not]; decide
  rw [if_neg e_not]
  by_cases e_abs : eqS s ln_abs = true
  · rw [if_pos e_abs]; decide
  rw [if_neg e_abs]
  by_cases e_len : eqS s ln_len = true
  · rw [if_pos e_len]; decide
  rw [if_neg e_len]
  by_cases e_app : eqS s ln_app = true
  · rw [if_pos e_app]; decide
  rw [if_neg e_app]
  by_cases e_rev : eqS s ln_rev = true
  · rw [if_pos e_rev]; decide
  rw [if_neg e_rev]
  by_cases e_map : eqS s ln_map = true
  · rw [if_pos e_map]; decide
  rw [if_neg e_map]
  by_cases e_fold : eqS s ln_fold = true
  · rw [if_pos e_fold]; decide
  rw [if_neg e_fold]
  by_cases e_sum : eqS s ln_sum = true
  · rw [if_pos e_sum]; decide
  rw [if_neg e_sum]
  by_cases e_each : eqS s ln_each = true
  · rw [if_pos e_each]; decide
  rw [if_neg e_each]
  by_cases e_upto : eqS s ln_upto = true
  · rw [if_pos e_upto]; decide
  rw [if_neg e_upto]
  by_cases e_shows : eqS s ln_shows = true
  · rw [if_pos e_shows]; decide
  rw [if_neg e_shows]
  decide

set_option maxRecDepth 100000 in
set_option maxHeartbeats 8000000 in
theorem libFun_c (s : ByteArray) (w : World) : Calls Tryz.prog 51 #[.string s] w fun e w' => e = .returned (.string (libFunP s)) ∧ Below w.heap.size w w' := by
  have hF : libFunP s = if eqS s ln_id then lt_id else if eqS s ln_both then lt_both else if eqS s ln_not then lt_not else if eqS s ln_abs then lt_abs else if eqS s ln_len then lt_len else if eqS s ln_app then lt_app else if eqS s ln_rev then lt_rev else if eqS s ln_map then lt_map else if eqS s ln_fold then lt_fold else if eqS s ln_sum then lt_sum else if eqS s ln_each then lt_each else if eqS s ln_upto then lt_upto else if eqS s ln_shows then lt_shows else ⟨#[]⟩ := rfl
  generalize libFunP s = res at *
  have c0 : (s.toList == [105, 100]) = eqS s ln_id := eqS_lit ln_id rfl
  generalize eqS s ln_id = a0 at *
  have c1 : (s.toList == [98, 111, 116, 104]) = eqS s ln_both := eqS_lit ln_both rfl
  generalize eqS s ln_both = a1 at *
  have c2 : (s.toList == [110, 111, 116]) = eqS s ln_not := eqS_lit ln_not rfl
  generalize eqS s ln_not = a2 at *
  have c3 : (s.toList == [97, 98, 115]) = eqS s ln_abs := eqS_lit ln_abs rfl
  generalize eqS s ln_abs = a3 at *
  have c4 : (s.toList == [108, 101, 110]) = eqS s ln_len := eqS_lit ln_len rfl
  generalize eqS s ln_len = a4 at *
  have c5 : (s.toList == [97, 112, 112]) = eqS s ln_app := eqS_lit ln_app rfl
  generalize eqS s ln_app = a5 at *
  have c6 : (s.toList == [114, 101, 118]) = eqS s ln_rev := eqS_lit ln_rev rfl
  generalize eqS s ln_rev = a6 at *
  have c7 : (s.toList == [109, 97, 112]) = eqS s ln_map := eqS_lit ln_map rfl
  generalize eqS s ln_map = a7 at *
  have c8 : (s.toList == [102, 111, 108, 100]) = eqS s ln_fold := eqS_lit ln_fold rfl
  generalize eqS s ln_fold = a8 at *
  have c9 : (s.toList == [115, 117, 109]) = eqS s ln_sum := eqS_lit ln_sum rfl
  generalize eqS s ln_sum = a9 at *
  have c10 : (s.toList == [101, 97, 99, 104]) = eqS s ln_each := eqS_lit ln_each rfl
  generalize eqS s ln_each = a10 at *
  have c11 : (s.toList == [117, 112, 116, 111]) = eqS s ln_upto := eqS_lit ln_upto rfl
  generalize eqS s ln_upto = a11 at *
  have c12 : (s.toList == [115, 104, 111, 119, 115]) = eqS s ln_shows := eqS_lit ln_shows rfl
  generalize eqS s ln_shows = a12 at *
  cases a0
  rotate_left
  · rw [if_pos rfl] at hF
    subst hF
    go_enter Tryz.func51, Tryz.ntmps51
    go_wp2_with fail
    go_returns
    exact ⟨rfl, by go_grown⟩
  rw [if_neg (by simp)] at hF
  cases a1
  rotate_left
  · rw [if_pos rfl] at hF
    subst hF
    go_enter Tryz.func51, Tryz.ntmps51
    go_wp2_with fail
    go_returns
    exact ⟨rfl, by go_grown⟩
  rw [if_neg (by simp)] at hF
  cases a2
  rotate_left
  · rw [if_pos rfl] at hF
    subst hF
    go_enter Tryz.func51, Tryz.ntmps51
    go_wp2_with fail
    go_returns
    exact ⟨rfl, by go_grown⟩
  rw [if_neg (by simp)] at hF
  cases a3
  rotate_left
  · rw [if_pos rfl] at hF
    subst hF
    go_enter Tryz.func51, Tryz.ntmps51
    go_wp2_with fail
    go_returns
    exact ⟨rfl, by go_grown⟩
  rw [if_neg (by simp)] at hF
  cases a4
  rotate_left
  · rw [if_pos rfl] at hF
    subst hF
    go_enter Tryz.func51, Tryz.ntmps51
    go_wp2_with fail
    go_returns
    exact ⟨rfl, by go_grown⟩
  rw [if_neg (by simp)] at hF
  cases a5
  rotate_left
  · rw [if_pos rfl] at hF
    subst hF
    go_enter Tryz.func51, Tryz.ntmps51
    go_wp2_with fail
    go_returns
    exact ⟨rfl, by go_grown⟩
  rw [if_neg (by simp)] at hF
  cases a6
  rotate_left
  · rw [if_pos rfl] at hF
    subst hF
    go_enter Tryz.func51, Tryz.ntmps51
    go_wp2_with fail
    go_returns
    exact ⟨rfl, by go_grown⟩
  rw [if_neg (by simp)] at hF
  cases a7
  rotate_left
  · rw [if_pos rfl] at hF
    subst hF
    go_enter Tryz.func51, Tryz.ntmps51
    go_wp2_with fail
    go_returns
    exact ⟨rfl, by go_grown⟩
  rw [if_neg (by simp)] at hF
  cases a8
  rotate_left
  · rw [if_pos rfl] at hF
    subst hF
    go_enter Tryz.func51, Tryz.ntmps51
    go_wp2_with fail
    go_returns
    exact ⟨rfl, by go_grown⟩
  rw [if_neg (by simp)] at hF
  cases a9
  rotate_left
  · rw [if_pos rfl] at hF
    subst hF
    go_enter Tryz.func51, Tryz.ntmps51
    go_wp2_with fail
    go_returns
    exact ⟨rfl, by go_grown⟩
  rw [if_neg (by simp)] at hF
  cases a10
  rotate_left
  · rw [if_pos rfl] at hF
    subst hF
    go_enter Tryz.func51, Tryz.ntmps51
    go_wp2_with fail
    go_returns
    exact ⟨rfl, by go_grown⟩
  rw [if_neg (by simp)] at hF
  cases a11
  rotate_left
  · rw [if_pos rfl] at hF
    subst hF
    go_enter Tryz.func51, Tryz.ntmps51
    go_wp2_with fail
    go_returns
    exact ⟨rfl, by go_grown⟩
  rw [if_neg (by simp)] at hF
  cases a12
  rotate_left
  · rw [if_pos rfl] at hF
    subst hF
    go_enter Tryz.func51, Tryz.ntmps51
    go_wp2_with fail
    go_returns
    exact ⟨rfl, by go_grown⟩
  rw [if_neg (by simp)] at hF
  subst hF
  go_enter Tryz.func51, Tryz.ntmps51
  go_wp2_with fail
  go_returns
  exact ⟨rfl, by go_grown⟩
end Go.Proofs.YtaimekaagmcmnaaGreat
