/- Parts of the proof, merged: PatOk2, PatOk3. -/
import Derived.Test.YtnmmfcnkpcigoaaGreatDe27
/- PatOk: the program's, all ways; where a pattern ends in the reference. -/
namespace Go.Proofs.YtnmmfcnkpcigoaaGreat
open Go.RowKit
set_option linter.unusedVariables false
set_option linter.unusedSimpArgs false
attribute [local go_sem] Ext.cell

set_option maxRecDepth 100000 in
set_option maxHeartbeats 4000000 in
theorem PatOk_c (d : GData) (hd : d.nodes.length ≤ 1152921504606846976) (r : List Value) (lo : Nat) (w : World) (hr : GData.R lo w r d) :
    Calls Tryz.prog 55 #[.agg r.toArray] w fun e w' => e = .returned (.bool (patOk d)) ∧ Below w.heap.size w w' := by
  obtain ⟨u, rfl, -, hu⟩ := hr
  have hu' := hu
  obtain ⟨a, c, rfl⟩ := hu'.form
  clear hu'
  by_cases h1 : 1 ≤ (d.nodes.length : Int) ∧ (d.nodes.length : Int) ≤ 600
  · by_cases hk : endsK d.nodes.length (kidsAt d.nodes) (d.nodes.length + 1) 0 = d.nodes.length
    · exact patLoop_c d hd a c lo w hu h1 hk
    · have H1 := fun W (hW : Below w.heap.size w W) => patKids_c d hd (.slice a d.nodes.length c) lo w.heap.size W (hu.below GDNode.good hW)
      have H3 := fun W (hk : KidsGive d.nodes.length (kidsAt d.nodes) 91 #[.pointer (some ⟨w.heap.size, 0, none⟩)] lo W) => inOrder_c d.nodes.length hd (kidsAt d.nodes) 91 #[.pointer (some ⟨w.heap.size, 0, none⟩)] lo W hk (fun _ _ => by kernel_rfl)
      rw [decide_eq_false hk] at H3
      have W1 := fun W => within_c d.nodes.length 1 600 W
      rw [decide_eq_true h1] at W1
      have hno : patOk d = false := by unfold patOk; rw [decide_eq_false hk]; simp
      rw [hno]
      clear hk hno h1 hu
      replace H1 := Lib.hid H1
      replace H3 := Lib.hid H3
      generalize d.nodes.length = n at *
      show Calls Tryz.prog 55 #[.agg #[.slice a n c]] w _
      go_enter Tryz.func55, Tryz.ntmps55
      go_upto_region 1 with fail
      have B : RowAt (w.alloc (.cells #[.slice a n c] 105)) (w.heap.size) 0 [.slice a n c] := RowAt.box w #[.slice a n c] 105
      have hw : Below w.heap.size w (w.alloc (.cells #[.slice a n c] 105)) := by go_grown
      generalize (w.alloc (.cells #[.slice a n c] 105)) = w0 at *
      have b_0 := B.box1; have hsB := World.block_lt_of_cell? _ _ b_0; dsimp only at hsB
      go_wp2_with (first | (go_at_call 42; ((with_reducible refine (W1 _).mono ?_); rintro e w1 ⟨rfl, rfl⟩)) | (go_at_call 43; ((with_reducible refine (H3.out _ (H1.out _ hw b_0)).mono ?_); rintro e w1 ⟨rfl, hb⟩; have hw := hw.trans (hb.mono hw.size); have B := B.below hb; have b_0 := B.box1; have hsB := World.block_lt_of_cell? _ _ b_0; dsimp only at hsB; clear hb)))
      go_returns
      exact ⟨rfl, hw⟩
  · have hno : patOk d = false := by unfold patOk; rw [decide_eq_false h1]; rfl
    rw [hno]
    have W1 := fun W => within_c d.nodes.length 1 600 W
    rw [decide_eq_false h1] at W1
    clear h1 hu hno
    generalize d.nodes.length = n at *
    show Calls Tryz.prog 55 #[.agg #[.slice a n c]] w _
    go_enter Tryz.func55, Tryz.ntmps55
    go_upto_region 1 with fail
    have B : RowAt (w.alloc (.cells #[.slice a n c] 105)) (w.heap.size) 0 [.slice a n c] := RowAt.box w #[.slice a n c] 105
    have hw : Below w.heap.size w (w.alloc (.cells #[.slice a n c] 105)) := by go_grown
    generalize (w.alloc (.cells #[.slice a n c] 105)) = w0 at *
    have b_0 := B.box1; have hsB := World.block_lt_of_cell? _ _ b_0; dsimp only at hsB
    go_wp2_with (go_at_call 42; ((with_reducible refine (W1 _).mono ?_); rintro e w1 ⟨rfl, rfl⟩))
    go_returns
    exact ⟨rfl, hw⟩

set_option maxRecDepth 100000 in
set_option maxHeartbeats 2000000 in
theorem l04PEnd_out (x : GData) (i : Nat) (r : List Value) (lo : Nat) (w : World) (hx : GData.R lo w r x) (hi : x.nodes.length ≤ i) :
    Calls Tryz.prog 104 #[.agg r.toArray, .int .i64 i] w fun e w' => e = .returned (.int .i64 (-1)) ∧ Below w.heap.size w w' := by
  obtain ⟨u0, rfl, -, a0⟩ := hx
  obtain ⟨pa, pc, rfl⟩ := a0.form
  have d1 : decide ((x.nodes.length : Int) ≤ i) = true := decide_eq_true (by omega)
  clear a0
  go_enter Tryz.func104, Tryz.ntmps104
  go_wp2
  go_returns
  exact ⟨rfl, by go_grown⟩

set_option maxRecDepth 100000 in
set_option maxHeartbeats 4000000 in
theorem l04PEnd_c (x : GData) (hL : x.nodes.length ≤ 1152921504606846976) : ∀ (f i : Nat) (r : List Value) (lo : Nat) (w : World), GData.R lo w r x → x.nodes.length < i + f →
    Calls Tryz.prog 104 #[.agg r.toArray, .int .i64 i] w fun e w' => e = .returned (.int .i64 (ends x.nodes f i)) ∧ Below w.heap.size w w'
  | 0, i, r, lo, w, hx, hf => by rw [ends_out (by omega)]; exact l04PEnd_out x i r lo w hx (by omega)
  | f + 1, i, r, lo, w, hx, hf => by
    have ih := l04PEnd_c x hL f
    have Hx := hx
    obtain ⟨u0, rfl, -, a0⟩ := hx
    obtain ⟨pa, pc, rfl⟩ := a0.form
    by_cases hlt : i < x.nodes.length
    · have d1 : decide ((x.nodes.length : Int) ≤ i) = false := decide_eq_false (by omega)
      have d1' : decide (x.nodes.length ≤ i) = false := decide_eq_false (by omega)
      obtain ⟨pa', pc', he, -, -, h0⟩ := a0
      obtain ⟨rfl, rfl⟩ : pa' = pa ∧ pc' = pc := by injection he with a b c; exact ⟨a.symm, c.symm⟩
      obtain ⟨b1, o1, n, s1, _, rfl, P1, q1, r1⟩ := h0.get (Lib.hid rfl) hlt
      obtain ⟨kv, rfl, -, k0⟩ := q1
      obtain ⟨ka, kc, rfl, kl, km, k0⟩ := k0
      have hends : ends x.nodes (f + 1) i = kidsEnd (ends x.nodes f) (i + 1) n.kids := by conv => lhs; unfold ends; rw [P1.out]
      rw [hends]
      have R1 : w.cell? ⟨b1, o1 + i * 4 + 3, none⟩ = some (.slice ka n.kids.length kc) := by simpa using r1 3 _ rfl
      obtain ⟨m, hm⟩ : ∃ m, m = n.kids.length := ⟨_, rfl⟩
      rw [← hm] at kl R1
      have X1 := Lib.hid hm
      clear hm hends r1 h0
      replace ih := Lib.hid ih
      replace k0 := Lib.hid k0
      go_enter Tryz.func104, Tryz.ntmps104
      go_upto_region 1 with fail
      have B : RowAt (w.alloc (.cells #[.slice (some ⟨b1, o1, none⟩) x.nodes.length pc'] 105)) (w.heap.size) 0 [.slice (some ⟨b1, o1, none⟩) x.nodes.length pc'] := RowAt.box w #[.slice (some ⟨b1, o1, none⟩) x.nodes.length pc'] 105
      have hw : Below w.heap.size w (w.alloc (.cells #[.slice (some ⟨b1, o1, none⟩) x.nodes.length pc'] 105)) := by go_grown
      generalize (w.alloc (.cells #[.slice (some ⟨b1, o1, none⟩) x.nodes.length pc'] 105)) = w0 at *
      replace R1 := cell_below hw R1
      have hb0 := B.box1
      go_wp2_with fail
      go_loopw [5, 22] (fun nx ii wr => ∃ (j : Nat) (z : Nat), j ≤ m ∧ i + 1 ≤ z ∧ z ≤ x.nodes.length ∧ nx = .int .i64 z ∧ ii = .int .i64 j ∧ Hid (kidsEnd (ends x.nodes f) (i + 1) n.kids = kidsEnd (ends x.nodes f) z (n.kids.drop j)) ∧ Below w.heap.size w wr ∧ RowAt wr w.heap.size 0 [.slice (some ⟨b1, o1, none⟩) x.nodes.length pc'] ∧ w.heap.size < wr.heap.size) (fun _ ii _ => m - (intOf ii).toNat)
      case atStart => exact ⟨0, i + 1, by omega, by omega, by omega, by simp, rfl, by simp [Hid], hw, B, World.block_lt_of_cell? _ _ hb0⟩
      case round =>
        clear hb0 R1 B hw
        obtain ⟨j, z, hj, hz1, hz2, rfl, rfl, hK, hw, B, hs⟩ := hrel
        have hb0 := B.box1
        by_cases hjm : j < m
        · obtain ⟨b2, o2, k, s2, _, rfl, P2, ⟨rfl, hk64⟩, r2⟩ := ((k0.out.below IntR.good hw).get X1 hjm)
          have e0 : wr.cell? ⟨b2, o2 + j, none⟩ = some (.int .i64 k) := by simpa using r2 0 _ rfl
          have hdrop : n.kids.drop j = k :: n.kids.drop (j + 1) := by
            obtain ⟨hjl, he⟩ := List.getElem?_eq_some_iff.1 P2.out
            rw [List.drop_eq_getElem_cons hjl, he]
          rw [hdrop] at hK
          clear r2 hdrop
          by_cases hkz : k = z
          · subst hkz
            have hK1 : kidsEnd (ends x.nodes f) (z : Int) (((z : Nat) : Int) :: n.kids.drop (j + 1)) = (if ends x.nodes f z < 0 then -1 else kidsEnd (ends x.nodes f) (ends x.nodes f z) (n.kids.drop (j + 1))) := by
              conv => lhs; unfold kidsEnd
              simp
            rw [Hid, hK1] at hK
            replace hK := Lib.hid hK
            clear hK1
            have c1 := fun W hW => ih.out z [.slice (some ⟨b1, o1, none⟩) x.nodes.length pc'] lo W hW (by omega)
            have hr := ends_range x.nodes f z
            generalize ends x.nodes f z = e at *
            replace hr := Lib.hid hr
            have hd : ((z : Int) != z) = false := by simp
            go_wp2_with fail
            refine (c1 _ (GData.good.below Hx hw)).mono ?_
            rintro e' w2 ⟨rfl, hb⟩
            have hw2 := hw.trans (hb.mono hw.size)
            have B2 := B.below hb
            have hs2 := Nat.lt_of_lt_of_le hs hb.size
            clear hb hb0 e0 B hw hs
            by_cases he : e < 0
            · have d2 : decide (e < 0) = true := decide_eq_true he
              rw [Hid, if_pos he] at hK
              replace hK := Lib.hid hK
              clear hr c1 he
              go_wp2
              go_returns
              exact ⟨by rw [hK.out]; rfl, hw2⟩
            · have d2 : decide (e < 0) = false := decide_eq_false he
              rw [Hid, if_neg he] at hK
              have hr' := hr.out (by omega)
              obtain ⟨z', rfl⟩ : ∃ z' : Nat, e = z' := ⟨e.toNat, by omega⟩
              replace hK := Lib.hid hK
              clear hr c1 he
              go_wp2
              go_roundw
              case rel => exact ⟨j + 1, z', by omega, by omega, by omega, rfl, by go_num, hK, hw2, B2, hs2⟩
              case measure => simp [intOf]; omega
          · have hK1 : kidsEnd (ends x.nodes f) (z : Int) (k :: n.kids.drop (j + 1)) = -1 := by
              conv => lhs; unfold kidsEnd
              rw [if_pos hkz]
            rw [Hid, hK1] at hK
            replace hK := Lib.hid hK
            clear hK1
            have hd : (k != (z : Int)) = true := by simpa using hkz
            clear hkz
            go_wp2
            go_returns
            exact ⟨by rw [hK.out]; rfl, hw⟩
        · obtain rfl : j = m := by omega
          rw [Hid, X1.out, List.drop_length] at hK
          replace hK := Lib.hid (hK.trans (by unfold kidsEnd; rfl : _ = (z : Int)))
          go_wp2
          go_returns
          exact ⟨by rw [hK.out]; rfl, hw⟩
    · rw [ends_out (by omega)]; exact l04PEnd_out x i _ lo w Hx (by omega)

end Go.Proofs.YtnmmfcnkpcigoaaGreat

/- A pattern's node: the reference's test. -/
namespace Go.Proofs.YtnmmfcnkpcigoaaGreat
open Go.RowKit
set_option linter.unusedVariables false
set_option linter.unusedSimpArgs false
attribute [local go_sem] Ext.cell

set_option maxRecDepth 100000 in
set_option maxHeartbeats 8000000 in
theorem l04PNode_c (x : GDNode) (d : GData) (hd : d.nodes.length ≤ 1152921504606846976) (r1 r2 : List Value) (lo1 lo2 : Nat) (w : World) (hr1 : GData.R lo1 w r1 d) (hr2 : GDNode.R lo2 w r2 x) :
    Calls Tryz.prog 103 #[.agg r1.toArray, .agg r2.toArray] w fun e w' => e = .returned (.bool (pnOk d.nodes x)) ∧ Below w.heap.size w w' := by
  obtain ⟨kd, nn, s, ks⟩ := x
  obtain ⟨u0, rfl, -, a0⟩ := hr1
  obtain ⟨v0, rfl, hwf, b0⟩ := hr2
  obtain ⟨da, dc, rfl, dl, dm, h0⟩ := a0
  obtain ⟨ka, kc, rfl, kl, km, k0⟩ := b0
  have hnn : I64 nn := hwf.2.1
  have hss : StrOk s := hwf.2.2
  dsimp only at *
  obtain ⟨m, hm⟩ : ∃ m, m = ks.length := ⟨_, rfl⟩
  obtain ⟨n, hn⟩ : ∃ n, n = d.nodes.length := ⟨_, rfl⟩
  rw [← hm] at kl ⊢
  rw [← hn] at dl hd ⊢
  replace hm := Lib.hid hm; replace hn := Lib.hid hn; replace k0 := Lib.hid k0; replace h0 := Lib.hid h0
  show Calls Tryz.prog 103 #[.agg #[.slice da n dc], .agg #[.int .i64 kd, .int .i64 nn, .string s, .slice ka m kc]] w _
  clear hwf
  have hC := pnOk_kind d.nodes kd nn s ks
  generalize pnOk d.nodes ⟨kd, nn, s, ks⟩ = q at hC ⊢
  replace hC := Lib.hid hC
  go_enter Tryz.func103, Tryz.ntmps103
  go_upto_region 1 with fail
  have D : RowAt (w.alloc (.cells #[.slice da n dc] 105)) (w.heap.size) 0 [.slice da n dc] := RowAt.box w #[.slice da n dc] 105
  have D := D.below (show Below (w.alloc (.cells #[.slice da n dc] 105)).heap.size (w.alloc (.cells #[.slice da n dc] 105)) ((w.alloc (.cells #[.slice da n dc] 105)).alloc (.cells #[.int .i64 kd, .int .i64 nn, .string s, .slice ka m kc] 133)) by go_grown)
  have N : RowAt ((w.alloc (.cells #[.slice da n dc] 105)).alloc (.cells #[.int .i64 kd, .int .i64 nn, .string s, .slice ka m kc] 133)) (w.heap.size + 1) 0 [.int .i64 kd, .int .i64 nn, .string s, .slice ka m kc] := by have h := RowAt.box (w.alloc (.cells #[.slice da n dc] 105)) #[.int .i64 kd, .int .i64 nn, .string s, .slice ka m kc] 133; simp only [World.size_alloc] at h; exact h
  have hw : Below w.heap.size w ((w.alloc (.cells #[.slice da n dc] 105)).alloc (.cells #[.int .i64 kd, .int .i64 nn, .string s, .slice ka m kc] 133)) := by go_grown
  generalize ((w.alloc (.cells #[.slice da n dc] 105)).alloc (.cells #[.int .i64 kd, .int .i64 nn, .string s, .slice ka m kc] 133)) = w0 at *
  generalize hp : pairOf d.nodes ks = p
  replace hp := Lib.hid hp
  go_cut [5] (fun sx wx => sx = .bool p ∧ Below w.heap.size w wx ∧ RowAt wx w.heap.size 0 [.slice da n dc] ∧ RowAt wx (w.heap.size + 1) 0 [.int .i64 kd, .int .i64 nn, .string s, .slice ka m kc])
  case first =>
    have d_0 := D.box1; have hsD := World.block_lt_of_cell? _ _ d_0; dsimp only at hsD; obtain ⟨n_0, n_1, n_2, n_3⟩ := N.box4; have hsN := World.block_lt_of_cell? _ _ n_0; dsimp only at hsN
    by_cases h1 : m = 1
    · subst h1
      obtain ⟨b2, o2, j, s2, _, rfl, P2, ⟨rfl, hj64⟩, r2⟩ := (k0.out.below IntR.good hw).get (k := 0) hm (by omega)
      have e1 : w0.cell? ⟨b2, o2, none⟩ = some (.int .i64 j) := by simpa using r2 0 _ rfl
      have hbj := World.block_lt_of_cell? _ _ e1
      dsimp only at hbj
      have hks : ks = [j] := by
        obtain ⟨y, rfl⟩ := List.length_eq_one_iff.1 hm.out.symm
        have := P2.out
        simpa using this
      have hp' : (kindAt d.nodes j == 5) = p := by rw [← hp.out, hks]; rfl
      clear r2 P2 hks
      by_cases hj0 : 0 ≤ j
      · obtain ⟨i, rfl⟩ : ∃ i : Nat, j = i := ⟨j.toNat, by omega⟩
        have hd0 : decide ((0 : Int) ≤ (i : Int)) = true := by simp
        by_cases hj1 : i < n
        · obtain ⟨b3, o3, y, s3, _, rfl, P3, hy, r3⟩ := (h0.out.below GDNode.good hw).get hn hj1
          obtain ⟨y0, rfl, -, -⟩ := hy
          have e2 : w0.cell? ⟨b3, o3 + i * 4, none⟩ = some (.int .i64 y.kind) := by simpa using r3 0 _ rfl
          have hb3 := World.block_lt_of_cell? _ _ e2
          dsimp only at hb3
          have hp5 : (y.kind == 5) = p := by
            rw [← hp']
            unfold kindAt
            simp [P3.out]
          generalize y.kind = yk at *
          replace hp5 := Lib.hid hp5
          have hd1 : decide ((i : Int) < (n : Int)) = true := decide_eq_true (by omega)
          have hd1' : decide (i < n) = true := decide_eq_true (by omega)
          clear hp' r3 P3
          (refine wp_region_ext_lit (by kernel_rfl) (by kernel_rfl) ?_; (repeat (any_goals (first | go_big_quiet_step ((first | fail)) | quiet_step ((first | fail)) | (refine wpQuiet_step (fun K hK => ?_); go_simp; split <;> (refine hK _ ?_; clear hK K))))); all_goals (refine wpQuiet_nil ?_; rintro w1 ⟨⟨w2, hb⟩, rfl⟩; have hw := hw.trans (hb.mono hw.size); have D := D.below hb; have d_0 := D.box1; have hsD := World.block_lt_of_cell? _ _ d_0; dsimp only at hsD; have N := N.below hb; obtain ⟨n_0, n_1, n_2, n_3⟩ := N.box4; have hsN := World.block_lt_of_cell? _ _ n_0; dsimp only at hsN; clear hb))
          all_goals go_wp2_with fail
          all_goals go_meet
          all_goals exact ⟨by rw [← hp5.out], hw, D, N⟩
        · have hp5 : false = p := by
            rw [← hp']
            unfold kindAt
            rw [List.getElem?_eq_none (by have := hn.out; omega)]
            simp
          subst hp5
          have hd1 : decide ((i : Int) < (n : Int)) = false := decide_eq_false (by omega)
          have hd1' : decide (i < n) = false := decide_eq_false (by omega)
          clear hp'
          (refine wp_region_ext_lit (by kernel_rfl) (by kernel_rfl) ?_; (repeat (any_goals (first | go_big_quiet_step ((first | fail)) | quiet_step ((first | fail)) | (refine wpQuiet_step (fun K hK => ?_); go_simp; split <;> (refine hK _ ?_; clear hK K))))); all_goals (refine wpQuiet_nil ?_; rintro w1 ⟨⟨w2, hb⟩, rfl⟩; have hw := hw.trans (hb.mono hw.size); have D := D.below hb; have d_0 := D.box1; have hsD := World.block_lt_of_cell? _ _ d_0; dsimp only at hsD; have N := N.below hb; obtain ⟨n_0, n_1, n_2, n_3⟩ := N.box4; have hsN := World.block_lt_of_cell? _ _ n_0; dsimp only at hsN; clear hb))
          all_goals go_wp2_with fail
          all_goals go_meet
          all_goals exact ⟨rfl, hw, D, N⟩
      · have hp5 : false = p := by
          rw [← hp']
          unfold kindAt
          rw [if_neg hj0]; rfl
        subst hp5
        have hd0 : decide ((0 : Int) ≤ j) = false := decide_eq_false hj0
        clear hp' hj0
        (refine wp_region_ext_lit (by kernel_rfl) (by kernel_rfl) ?_; (repeat (any_goals (first | go_big_quiet_step ((first | fail)) | quiet_step ((first | fail)) | (refine wpQuiet_step (fun K hK => ?_); go_simp; split <;> (refine hK _ ?_; clear hK K))))); all_goals (refine wpQuiet_nil ?_; rintro w1 ⟨⟨w2, hb⟩, rfl⟩; have hw := hw.trans (hb.mono hw.size); have D := D.below hb; have d_0 := D.box1; have hsD := World.block_lt_of_cell? _ _ d_0; dsimp only at hsD; have N := N.below hb; obtain ⟨n_0, n_1, n_2, n_3⟩ := N.box4; have hsN := World.block_lt_of_cell? _ _ n_0; dsimp only at hsN; clear hb))
        all_goals go_wp2_with fail
        all_goals go_meet
        all_goals exact ⟨rfl, hw, D, N⟩
    · have hp5 : false = p := by
        rw [← hp.out]
        unfold pairOf
        have := hm.out
        match ks, this with
        | [], _ => rfl
        | [a], h => exact absurd h h1
        | a :: b :: c, _ => rfl
      subst hp5
      have e1 : ((m : Int) == 1) = false := by simp; omega
      clear h1
      (refine wp_region_ext_lit (by kernel_rfl) (by kernel_rfl) ?_; (repeat (any_goals (first | go_big_quiet_step ((first | fail)) | quiet_step ((first | fail)) | (refine wpQuiet_step (fun K hK => ?_); go_simp; split <;> (refine hK _ ?_; clear hK K))))); all_goals (refine wpQuiet_nil ?_; rintro w1 ⟨⟨w2, hb⟩, rfl⟩; have hw := hw.trans (hb.mono hw.size); have D := D.below hb; have d_0 := D.box1; have hsD := World.block_lt_of_cell? _ _ d_0; dsimp only at hsD; have N := N.below hb; obtain ⟨n_0, n_1, n_2, n_3⟩ := N.box4; have hsN := World.block_lt_of_cell? _ _ n_0; dsimp only at hsN; clear hb))
      all_goals go_wp2_with fail
      all_goals go_meet
      all_goals exact ⟨rfl, hw, D, N⟩
  obtain ⟨rfl, hw, D, N⟩ := hcut
  have d_0 := D.box1; have hsD := World.block_lt_of_cell? _ _ d_0; dsimp only at hsD; obtain ⟨n_0, n_1, n_2, n_3⟩ := N.box4; have hsN := World.block_lt_of_cell? _ _ n_0; dsimp only at hsN
  have hC := hC.out
  rw [hp.out, ← hm.out] at hC
  have c70 := fun W => l04ConOk_c s m p hss W
  have c71 := fun W => spec_NameOk_c s hss W
  generalize conShape s m p = cs at *
  generalize nameOk s = no at *
  clear hm hp k0 h0 hn
  rcases hC with ⟨h, rfl⟩ | ⟨rfl, rfl⟩ | ⟨rfl, hq⟩ | ⟨rfl, rfl⟩ | ⟨rfl, rfl⟩ | ⟨h1, h6, h2, h3, h4, h5, rfl⟩
  · rcases h with rfl | rfl
    all_goals cases e0 : ((m : Int) == 0) <;> cases e1 : (nn == 0) <;> cases e2 : s.toList.isEmpty
    all_goals go_wp2_with fail
    all_goals go_returns
    all_goals exact ⟨by first | rfl | (simp; done) | (simp_all; done), hw⟩
  · cases e0 : ((m : Int) == 0) <;> cases e1 : (nn == 0) <;> cases no
    all_goals go_wp2_with (go_at_call 37; ((with_reducible refine (c71 _).mono ?_); rintro e w1 ⟨rfl, hb⟩; have hw := hw.trans (hb.mono hw.size); have D := D.below hb; have d_0 := D.box1; have hsD := World.block_lt_of_cell? _ _ d_0; dsimp only at hsD; have N := N.below hb; obtain ⟨n_0, n_1, n_2, n_3⟩ := N.box4; have hsN := World.block_lt_of_cell? _ _ n_0; dsimp only at hsN; clear hb))
    all_goals go_returns
    all_goals exact ⟨by first | rfl | (simp; done) | (simp_all; done), hw⟩
  · by_cases hr1 : (-4611686018427387903 : Int) ≤ nn
    · by_cases hr2 : nn ≤ 4611686018427387903
      · rw [decide_eq_true (⟨hr1, hr2⟩ : (-4611686018427387903 : Int) ≤ nn ∧ nn ≤ 4611686018427387903)] at hq; subst hq
        have hq1 := decide_eq_true hr1; have hq2 := decide_eq_true hr2
        clear hr1 hr2
        cases e0 : ((m : Int) == 0) <;> cases e2 : s.toList.isEmpty
        all_goals go_wp2_with fail
        all_goals go_returns
        all_goals exact ⟨by first | rfl | (simp; done) | (simp_all; done), hw⟩
      · rw [decide_eq_false (fun h : (-4611686018427387903 : Int) ≤ nn ∧ nn ≤ 4611686018427387903 => hr2 h.2)] at hq; subst hq
        have hq1 := decide_eq_true hr1; have hq2 := decide_eq_false hr2
        clear hr1 hr2
        go_wp2_with fail
        go_returns
        exact ⟨by simp, hw⟩
    · rw [decide_eq_false (fun h : (-4611686018427387903 : Int) ≤ nn ∧ nn ≤ 4611686018427387903 => hr1 h.1)] at hq; subst hq
      have hq1 := decide_eq_false hr1
      clear hr1
      go_wp2_with fail
      go_returns
      exact ⟨by simp, hw⟩
  · cases e1 : (nn == 0) <;> cases cs
    all_goals go_wp2_with (go_at_call 34; ((with_reducible refine (c70 _).mono ?_); rintro e w1 ⟨rfl, rfl⟩))
    all_goals go_returns
    all_goals exact ⟨by first | rfl | (simp; done) | (simp_all; done), hw⟩
  · cases e0 : ((m : Int) == 2) <;> cases e1 : (nn == 0) <;> cases e2 : s.toList.isEmpty
    all_goals go_wp2_with fail
    all_goals go_returns
    all_goals exact ⟨by first | rfl | (simp; done) | (simp_all; done), hw⟩
  · go_wp2_with fail
    go_returns
    exact ⟨by first | rfl | (simp; done) | (simp_all; done), hw⟩

end Go.Proofs.YtnmmfcnkpcigoaaGreat
