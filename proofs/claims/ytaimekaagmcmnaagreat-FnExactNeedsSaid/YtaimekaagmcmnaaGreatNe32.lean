/- Parts of the proof, merged: PatOk3, PatOk4, Node3. -/
import Derived.Test.YtaimekaagmcmnaaGreatNe31
/- A pattern's node: the reference's test. -/
namespace Go.Proofs.YtaimekaagmcmnaaGreat
open Go.RowKit
set_option linter.unusedVariables false
set_option linter.unusedSimpArgs false
attribute [local go_sem] Ext.cell

set_option maxRecDepth 100000 in
set_option maxHeartbeats 8000000 in
theorem l04PNode_c (x : GDNode) (d : GData) (hd : d.nodes.length ≤ 1152921504606846976) (r1 r2 : List Value) (lo1 lo2 : Nat) (w : World) (hr1 : GData.R lo1 w r1 d) (hr2 : GDNode.R lo2 w r2 x) :
    Calls Tryz.prog 102 #[.agg r1.toArray, .agg r2.toArray] w fun e w' => e = .returned (.bool (pnOk d.nodes x)) ∧ Below w.heap.size w w' := by
  obtain ⟨kd, nn, s, ks⟩ := x
  obtain ⟨u0, rfl, -, a0⟩ := hr1
  obtain ⟨v0, rfl, hwf, b0⟩ := hr2
  obtain ⟨da, dc, rfl, dl, dm, h0⟩ := a0
  obtain ⟨ka, kc, rfl, kl, km, k0⟩ := b0
  have hnn : I64 nn := hwf.2.1
  have hss : StrOk s := hwf.2.2
  dsimp only at *
  obtain ⟨m, hm⟩ : ∃ m, m = ks.length := ⟨_, rfl⟩
  obtain ⟨n, hn⟩ : ∃ n, n = d.nodes.length := ⟨_, rfl⟩
  rw [← hm] at kl ⊢
  rw [← hn] at dl hd ⊢
  replace hm := Lib.hid hm; replace hn := Lib.hid hn; replace k0 := Lib.hid k0; replace h0 := Lib.hid h0
  show Calls Tryz.prog 102 #[.agg #[.slice da n dc], .agg #[.int .i64 kd, .int .i64 nn, .string s, .slice ka m kc]] w _
  clear hwf
  have hC := pnOk_kind d.nodes kd nn s ks
  generalize pnOk d.nodes ⟨kd, nn, s, ks⟩ = q at hC ⊢
  replace hC := Lib.hid hC
  go_enter Tryz.func102, Tryz.ntmps102
  go_upto_region 1 with fail
  have D : RowAt (w.alloc (.cells #[.slice da n dc] 83)) (w.heap.size) 0 [.slice da n dc] := RowAt.box w #[.slice da n dc] 83
  have D := D.below (show Below (w.alloc (.cells #[.slice da n dc] 83)).heap.size (w.alloc (.cells #[.slice da n dc] 83)) ((w.alloc (.cells #[.slice da n dc] 83)).alloc (.cells #[.int .i64 kd, .int .i64 nn, .string s, .slice ka m kc] 111)) by go_grown)
  have N : RowAt ((w.alloc (.cells #[.slice da n dc] 83)).alloc (.cells #[.int .i64 kd, .int .i64 nn, .string s, .slice ka m kc] 111)) (w.heap.size + 1) 0 [.int .i64 kd, .int .i64 nn, .string s, .slice ka m kc] := by have h := RowAt.box (w.alloc (.cells #[.slice da n dc] 83)) #[.int .i64 kd, .int .i64 nn, .string s, .slice ka m kc] 111; simp only [World.size_alloc] at h; exact h
  have hw : Below w.heap.size w ((w.alloc (.cells #[.slice da n dc] 83)).alloc (.cells #[.int .i64 kd, .int .i64 nn, .string s, .slice ka m kc] 111)) := by go_grown
  generalize ((w.alloc (.cells #[.slice da n dc] 83)).alloc (.cells #[.int .i64 kd, .int .i64 nn, .string s, .slice ka m kc] 111)) = w0 at *
  generalize hp : pairOf d.nodes ks = p
  replace hp := Lib.hid hp
  go_cut [5] (fun sx wx => sx = .bool p ∧ Below w.heap.size w wx ∧ RowAt wx w.heap.size 0 [.slice da n dc] ∧ RowAt wx (w.heap.size + 1) 0 [.int .i64 kd, .int .i64 nn, .string s, .slice ka m kc])
  case first =>
    have d_0 := D.box1; have hsD := World.block_lt_of_cell? _ _ d_0; dsimp only at hsD; obtain ⟨n_0, n_1, n_2, n_3⟩ := N.box4; have hsN := World.block_lt_of_cell? _ _ n_0; dsimp only at hsN
    by_cases h1 : m = 1
    · subst h1
      obtain ⟨b2, o2, j, s2, _, rfl, P2, ⟨rfl, hj64⟩, r2⟩ := (k0.out.below IntR.good hw).get (k := 0) hm (by omega)
      have e1 : w0.cell? ⟨b2, o2, none⟩ = some (.int .i64 j) := by simpa using r2 0 _ rfl
      have hbj := World.block_lt_of_cell? _ _ e1
      dsimp only at hbj
      have hks : ks = [j] := by
        obtain ⟨y, rfl⟩ := List.length_eq_one_iff.1 hm.out.symm
        have := P2.out
        simpa using this
      have hp' : (kindAt d.nodes j == 5) = p := by rw [← hp.out, hks]; rfl
      clear r2 P2 hks
      by_cases hj0 : 0 ≤ j
      · obtain ⟨i, rfl⟩ : ∃ i : Nat, j = i := ⟨j.toNat, by omega⟩
        have hd0 : decide ((0 : Int) ≤ (i : Int)) = true := by simp
        by_cases hj1 : i < n
        · obtain ⟨b3, o3, y, s3, _, rfl, P3, hy, r3⟩ := (h0.out.below GDNode.good hw).get hn hj1
          obtain ⟨y0, rfl, -, -⟩ := hy
          have e2 : w0.cell? ⟨b3, o3 + i * 4, none⟩ = some (.int .i64 y.kind) := by simpa using r3 0 _ rfl
          have hb3 := World.block_lt_of_cell? _ _ e2
          dsimp only at hb3
          have hp5 : (y.kind == 5) = p := by
            rw [← hp']
            unfold kindAt
            simp [P3.out]
          generalize y.kind = yk at *
          replace hp5 := Lib.hid hp5
          have hd1 : decide ((i : Int) < (n : Int)) = true := decide_eq_true (by omega)
          have hd1' : decide (i < n) = true := decide_eq_true (by omega)
          clear hp' r3 P3
          (refine wp_region_ext_lit (by kernel_rfl) (by kernel_rfl) ?_; (repeat (any_goals (first | go_big_quiet_step ((first | fail)) | quiet_step ((first | fail)) | (refine wpQuiet_step (fun K hK => ?_); go_simp; split <;> (refine hK _ ?_; clear hK K))))); all_goals (refine wpQuiet_nil ?_; rintro w1 ⟨⟨w2, hb⟩, rfl⟩; have hw := hw.trans (hb.mono hw.size); have D := D.below hb; have d_0 := D.box1; have hsD := World.block_lt_of_cell? _ _ d_0; dsimp only at hsD; have N := N.below hb; obtain ⟨n_0, n_1, n_2, n_3⟩ := N.box4; have hsN := World.block_lt_of_cell? _ _ n_0; dsimp only at hsN; clear hb))
          all_goals go_wp2_with fail
          all_goals go_meet
          all_goals exact ⟨by rw [← hp5.out], hw, D, N⟩
        · have hp5 : false = p := by
            rw [← hp']
            unfold kindAt
            rw [List.getElem?_eq_none (by have := hn.out; omega)]
            simp
          subst hp5
          have hd1 : decide ((i : Int) < (n : Int)) = false := decide_eq_false (by omega)
          have hd1' : decide (i < n) = false := decide_eq_false (by omega)
          clear hp'
          (refine wp_region_ext_lit (by kernel_rfl) (by kernel_rfl) ?_; (repeat (any_goals (first | go_big_quiet_step ((first | fail)) | quiet_step ((first | fail)) | (refine wpQuiet_step (fun K hK => ?_); go_simp; split <;> (refine hK _ ?_; clear hK K))))); all_goals (refine wpQuiet_nil ?_; rintro w1 ⟨⟨w2, hb⟩, rfl⟩; have hw := hw.trans (hb.mono hw.size); have D := D.below hb; have d_0 := D.box1; have hsD := World.block_lt_of_cell? _ _ d_0; dsimp only at hsD; have N := N.below hb; obtain ⟨n_0, n_1, n_2, n_3⟩ := N.box4; have hsN := World.block_lt_of_cell? _ _ n_0; dsimp only at hsN; clear hb))
          all_goals go_wp2_with fail
          all_goals go_meet
          all_goals exact ⟨rfl, hw, D, N⟩
      · have hp5 : false = p := by
          rw [← hp']
          unfold kindAt
          rw [if_neg hj0]; rfl
        subst hp5
        have hd0 : decide ((0 : Int) ≤ j) = false := decide_eq_false hj0
        clear hp' hj0
        (refine wp_region_ext_lit (by kernel_rfl) (by kernel_rfl) ?_; (repeat (any_goals (first | go_big_quiet_step ((first | fail)) | quiet_step ((first | fail)) | (refine wpQuiet_step (fun K hK => ?_); go_simp; split <;> (refine hK _ ?_; clear hK K))))); all_goals (refine wpQuiet_nil ?_; rintro w1 ⟨⟨w2, hb⟩, rfl⟩; have hw := hw.trans (hb.mono hw.size); have D := D.below hb; have d_0 := D.box1; have hsD := World.block_lt_of_cell? _ _ d_0; dsimp only at hsD; have N := N.below hb; obtain ⟨n_0, n_1, n_2, n_3⟩ := N.box4; have hsN := World.block_lt_of_cell? _ _ n_0; dsimp only at hsN; clear hb))
        all_goals go_wp2_with fail
        all_goals go_meet
        all_goals exact ⟨rfl, hw, D, N⟩
    · have hp5 : false = p := by
        rw [← hp.out]
        unfold pairOf
        have := hm.out
        match ks, this with
        | [], _ => rfl
        | [a], h => exact absurd h h1
        | a :: b :: c, _ => rfl
      subst hp5
      have e1 : ((m : Int) == 1) = false := by simp; omega
      clear h1
      (refine wp_region_ext_lit (by kernel_rfl) (by kernel_rfl) ?_; (repeat (any_goals (first | go_big_quiet_step ((first | fail)) | quiet_step ((first | fail)) | (refine wpQuiet_step (fun K hK => ?_); go_simp; split <;> (refine hK _ ?_; clear hK K))))); all_goals (refine wpQuiet_nil ?_; rintro w1 ⟨⟨w2, hb⟩, rfl⟩; have hw := hw.trans (hb.mono hw.size); have D := D.below hb; have d_0 := D.box1; have hsD := World.block_lt_of_cell? _ _ d_0; dsimp only at hsD; have N := N.below hb; obtain ⟨n_0, n_1, n_2, n_3⟩ := N.box4; have hsN := World.block_lt_of_cell? _ _ n_0; dsimp only at hsN; clear hb))
      all_goals go_wp2_with fail
      all_goals go_meet
      all_goals exact ⟨rfl, hw, D, N⟩
  obtain ⟨rfl, hw, D, N⟩ := hcut
  have d_0 := D.box1; have hsD := World.block_lt_of_cell? _ _ d_0; dsimp only at hsD; obtain ⟨n_0, n_1, n_2, n_3⟩ := N.box4; have hsN := World.block_lt_of_cell? _ _ n_0; dsimp only at hsN
  have hC := hC.out
  rw [hp.out, ← hm.out] at hC
  have c70 := fun W => l04ConOk_c s m p hss W
  have c71 := fun W => spec_NameOk_c s hss W
  generalize conShape s m p = cs at *
  generalize nameOk s = no at *
  clear hm hp k0 h0 hn
  rcases hC with ⟨h, rfl⟩ | ⟨rfl, rfl⟩ | ⟨rfl, hq⟩ | ⟨rfl, rfl⟩ | ⟨rfl, rfl⟩ | ⟨h1, h6, h2, h3, h4, h5, rfl⟩
  · rcases h with rfl | rfl
    all_goals cases e0 : ((m : Int) == 0) <;> cases e1 : (nn == 0) <;> cases e2 : s.toList.isEmpty
    all_goals go_wp2_with fail
    all_goals go_returns
    all_goals exact ⟨by first | rfl | (simp; done) | (simp_all; done), hw⟩
  · cases e0 : ((m : Int) == 0) <;> cases e1 : (nn == 0) <;> cases no
    all_goals go_wp2_with (go_at_call 34; ((with_reducible refine (c71 _).mono ?_); rintro e w1 ⟨rfl, hb⟩; have hw := hw.trans (hb.mono hw.size); have D := D.below hb; have d_0 := D.box1; have hsD := World.block_lt_of_cell? _ _ d_0; dsimp only at hsD; have N := N.below hb; obtain ⟨n_0, n_1, n_2, n_3⟩ := N.box4; have hsN := World.block_lt_of_cell? _ _ n_0; dsimp only at hsN; clear hb))
    all_goals go_returns
    all_goals exact ⟨by first | rfl | (simp; done) | (simp_all; done), hw⟩
  · by_cases hr1 : (-4611686018427387903 : Int) ≤ nn
    · by_cases hr2 : nn ≤ 4611686018427387903
      · rw [decide_eq_true (⟨hr1, hr2⟩ : (-4611686018427387903 : Int) ≤ nn ∧ nn ≤ 4611686018427387903)] at hq; subst hq
        have hq1 := decide_eq_true hr1; have hq2 := decide_eq_true hr2
        clear hr1 hr2
        cases e0 : ((m : Int) == 0) <;> cases e2 : s.toList.isEmpty
        all_goals go_wp2_with fail
        all_goals go_returns
        all_goals exact ⟨by first | rfl | (simp; done) | (simp_all; done), hw⟩
      · rw [decide_eq_false (fun h : (-4611686018427387903 : Int) ≤ nn ∧ nn ≤ 4611686018427387903 => hr2 h.2)] at hq; subst hq
        have hq1 := decide_eq_true hr1; have hq2 := decide_eq_false hr2
        clear hr1 hr2
        go_wp2_with fail
        go_returns
        exact ⟨by simp, hw⟩
    · rw [decide_eq_false (fun h : (-4611686018427387903 : Int) ≤ nn ∧ nn ≤ 4611686018427387903 => hr1 h.1)] at hq; subst hq
      have hq1 := decide_eq_false hr1
      clear hr1
      go_wp2_with fail
      go_returns
      exact ⟨by simp, hw⟩
  · cases e1 : (nn == 0) <;> cases cs
    all_goals go_wp2_with (go_at_call 69; ((with_reducible refine (c70 _).mono ?_); rintro e w1 ⟨rfl, rfl⟩))
    all_goals go_returns
    all_goals exact ⟨by first | rfl | (simp; done) | (simp_all; done), hw⟩
  · cases e0 : ((m : Int) == 2) <;> cases e1 : (nn == 0) <;> cases e2 : s.toList.isEmpty
    all_goals go_wp2_with fail
    all_goals go_returns
    all_goals exact ⟨by first | rfl | (simp; done) | (simp_all; done), hw⟩
  · go_wp2_with fail
    go_returns
    exact ⟨by first | rfl | (simp; done) | (simp_all; done), hw⟩

end Go.Proofs.YtaimekaagmcmnaaGreat

/- PatOk: the reference's. -/
namespace Go.Proofs.YtaimekaagmcmnaaGreat
open Go.RowKit
set_option linter.unusedVariables false
set_option linter.unusedSimpArgs false
attribute [local go_sem] Ext.cell

theorem mem_varsOf {l : List GDNode} {s : ByteArray} : s ∈ varsOf l ↔ ∃ x ∈ l, x.kind = 2 ∧ x.s = s := by
  unfold varsOf
  rw [List.mem_map]
  constructor
  · rintro ⟨x, hx, rfl⟩
    obtain ⟨h1, h2⟩ := List.mem_filter.1 hx
    exact ⟨x, h1, by simpa using h2, rfl⟩
  · rintro ⟨x, h1, h2, rfl⟩
    exact ⟨x, List.mem_filter.2 ⟨h1, by simpa using h2⟩, rfl⟩

set_option maxRecDepth 100000 in
set_option maxHeartbeats 8000000 in
theorem specPatOk_c (d : GData) (hd : d.nodes.length ≤ 1152921504606846976) (r : List Value) (lo : Nat) (w : World) (hr : GData.R lo w r d) :
    Calls Tryz.prog 70 #[.agg r.toArray] w fun e w' => e = .returned (.bool (patOk d)) ∧ Below w.heap.size w w' := by
  have Hr := hr
  obtain ⟨u, rfl, -, hu⟩ := hr
  obtain ⟨a, c, rfl, ul, um, h0⟩ := hu
  have CE := fun W (hW : Below w.heap.size w W) => l04PEnd_c d hd (d.nodes.length + 1) 0 [.slice a d.nodes.length c] lo W (GData.good.below Hr hW) (by omega)
  have CN := fun (x : GDNode) (r2 : List Value) (W : World) (hW : Below w.heap.size w W) (lo2 : Nat) (hx : GDNode.R lo2 W r2 x) => l04PNode_c x d hd [.slice a d.nodes.length c] r2 lo lo2 W (GData.good.below Hr hW) hx
  replace CE := Lib.hid CE
  replace CN := Lib.hid CN
  replace h0 := Lib.hid h0
  clear Hr
  obtain ⟨n, hn⟩ : ∃ n, n = d.nodes.length := ⟨_, rfl⟩
  rw [← hn] at ul hd CN ⊢
  replace hn := Lib.hid hn
  by_cases hs : n < 1
  · have d1 : decide ((n : Int) < 1) = true := decide_eq_true (by omega)
    go_enter Tryz.func70, Tryz.ntmps70
    go_wp2_with fail
    go_returns
    exact ⟨by unfold patOk; rw [← hn.out, decide_eq_false (by omega)]; rfl, by go_grown⟩
  by_cases hb : 600 < n
  · have d1 : decide ((n : Int) < 1) = false := decide_eq_false (by omega)
    have d2 : decide (600 < (n : Int)) = true := decide_eq_true (by omega)
    have d2' : decide (600 < n) = true := decide_eq_true (by omega)
    go_enter Tryz.func70, Tryz.ntmps70
    go_wp2_with fail
    go_returns
    exact ⟨by unfold patOk; rw [← hn.out, decide_eq_false (by omega)]; rfl, by go_grown⟩
  have d1 : decide ((n : Int) < 1) = false := decide_eq_false (by omega)
  have d2 : decide (600 < (n : Int)) = false := decide_eq_false (by omega)
  have d2' : decide (600 < n) = false := decide_eq_false (by omega)
  go_enter Tryz.func70, Tryz.ntmps70
  go_upto_region 1 with fail
  have B : RowAt (w.alloc (.cells #[.slice a n c] 83)) (w.heap.size) 0 [.slice a n c] := RowAt.box w #[.slice a n c] 83
  have hw : Below w.heap.size w (w.alloc (.cells #[.slice a n c] 83)) := by go_grown
  generalize (w.alloc (.cells #[.slice a n c] 83)) = w0 at *
  have b_0 := B.box1; have hsB := World.block_lt_of_cell? _ _ b_0; dsimp only at hsB
  go_wp2_with fail
  go_loopw [19] (fun i wr => ∃ k : Nat, k ≤ n ∧ i = .int .i64 k ∧ Below w.heap.size w wr ∧ RowAt wr w.heap.size 0 [.slice a n c] ∧ Hid (∀ y ∈ d.nodes.take k, pnOk d.nodes y = true) ∧ Hid (varsOf (d.nodes.take k)).Nodup) (fun i _ => n - (intOf i).toNat)
  case atStart => exact ⟨0, by omega, rfl, hw, B, fun y hy => by simp at hy, by show (varsOf (d.nodes.take 0)).Nodup; simp [varsOf]⟩
  case round =>
    clear hw B b_0 hsB
    obtain ⟨k, hk, rfl, hw, B, hF, hV⟩ := hrel
    have b_0 := B.box1; have hsB := World.block_lt_of_cell? _ _ b_0; dsimp only at hsB
    by_cases hlt : k < n
    · obtain ⟨b1, o1, x, s1, _, rfl, P1, hx, r1⟩ := (h0.out.below GDNode.good hw).get hn hlt
      obtain ⟨kd, nn, s, ks⟩ := x
      have Hx := hx
      obtain ⟨u0, rfl, hwf, hkd⟩ := hx
      obtain ⟨ka, kc, rfl, kl, km, k0⟩ := hkd
      have hss : StrOk s := hwf.2.2
      dsimp only at r1 kl k0 hwf Hx
      obtain ⟨m, hm⟩ : ∃ m, m = ks.length := ⟨_, rfl⟩
      rw [← hm] at r1 kl Hx
      replace hm := Lib.hid hm
      obtain ⟨e_0, e_1, e_2, e_3⟩ := r1.cells4
      clear r1 hwf k0
      replace Hx := Lib.hid Hx
      go_upto_region 6 with fail
      have hz := hw.size
      have hb1 : Below wr.heap.size wr (wr.alloc (.cells #[.int .i64 kd, .int .i64 nn, .string s, .slice ka m kc] 111)) := by go_grown
      have B' := B.below hb1
      have D : RowAt (wr.alloc (.cells #[.int .i64 kd, .int .i64 nn, .string s, .slice ka m kc] 111)) wr.heap.size 0 [.int .i64 kd, .int .i64 nn, .string s, .slice ka m kc] := RowAt.box _ _ _
      have hw' : Below w.heap.size w (wr.alloc (.cells #[.int .i64 kd, .int .i64 nn, .string s, .slice ka m kc] 111)) := by go_grown
      generalize wr.alloc (.cells #[.int .i64 kd, .int .i64 nn, .string s, .slice ka m kc] 111) = w1 at *
      have cN := fun W (hW : Below w1.heap.size w1 W) => CN.out ⟨kd, nn, s, ks⟩ [.int .i64 kd, .int .i64 nn, .string s, .slice ka m kc] W (hw'.trans (hW.mono hw'.size)) _ (GDNode.good.below Hx.out (hb1.trans (hW.mono hb1.size)))
      clear hw B b_0 hsB e_0 e_1 e_2 e_3 hz
      have B := B'; clear B' hb1 Hx
      have P1' := P1.out
      have htk : varsOf (d.nodes.take (k + 1)) = varsOf (d.nodes.take k) ++ (if kd = 2 then [s] else []) := by rw [take_snoc' P1', varsOf_snoc]
      have hbad : pnOk d.nodes ⟨kd, nn, s, ks⟩ = false → patOk d = false := fun h => patOk_bad P1' h
      have hstep := fun h => pn_step hF.out P1' h
      have htwice : kd = 2 → s ∈ varsOf (d.nodes.take k) → patOk d = false := fun h1 h2 => patOk_twice (k := k + 1) (by
        rw [htk, if_pos h1, List.nodup_append]
        exact fun h => h.2.2 s h2 s (by simp) rfl)
      generalize hq : pnOk d.nodes ⟨kd, nn, s, ks⟩ = q at *
      clear P1 P1' hF hm
      replace cN := Lib.hid cN; replace htk := Lib.hid htk; replace hstep := Lib.hid hstep; replace htwice := Lib.hid htwice; replace hw' := Lib.hid hw'
      have hw : Below w1.heap.size w1 w1 := Below.refl _ _
      have b_0 := B.box1; have hsB := World.block_lt_of_cell? _ _ b_0; dsimp only at hsB; obtain ⟨d_0, d_1, d_2, d_3⟩ := D.box4; have hsD := World.block_lt_of_cell? _ _ d_0; dsimp only at hsD
      cases q
      · have hres := Lib.hid (hbad rfl)
        clear hbad hq
        go_wp2_with (go_at_call 102; ((with_reducible refine (cN.out _ hw).mono ?_); rintro e w1 ⟨rfl, hb⟩; have hw := hw.trans (hb.mono hw.size); have B := B.below hb; have b_0 := B.box1; have hsB := World.block_lt_of_cell? _ _ b_0; dsimp only at hsB; have D := D.below hb; obtain ⟨d_0, d_1, d_2, d_3⟩ := D.box4; have hsD := World.block_lt_of_cell? _ _ d_0; dsimp only at hsD; clear hb))
        go_returns
        exact ⟨by rw [hres.out]; rfl, hw'.out.trans (hw.mono hw'.out.size)⟩
      clear hbad hq
      go_wp2_with (go_at_call 102; ((with_reducible refine (cN.out _ hw).mono ?_); rintro e w1 ⟨rfl, hb⟩; have hw := hw.trans (hb.mono hw.size); have B := B.below hb; have b_0 := B.box1; have hsB := World.block_lt_of_cell? _ _ b_0; dsimp only at hsB; have D := D.below hb; obtain ⟨d_0, d_1, d_2, d_3⟩ := D.box4; have hsD := World.block_lt_of_cell? _ _ d_0; dsimp only at hsD; clear hb))
      have hw := hw'.out.trans (hw.mono hw'.out.size)
      generalize hbN : wr.heap.size = bN at *
      replace hbN := Lib.hid hbN
      go_loopw [5] (fun i wr2 => ∃ j : Nat, j ≤ k ∧ i = .int .i64 j ∧ Below w.heap.size w wr2 ∧ RowAt wr2 w.heap.size 0 [.slice (some ⟨b1, o1, none⟩) n c] ∧ RowAt wr2 bN 0 [.int .i64 kd, .int .i64 nn, .string s, .slice ka m kc] ∧ Hid (kd = 2 → s ∉ varsOf (d.nodes.take j))) (fun i _ => k - (intOf i).toNat)
      case atStart => exact ⟨0, by omega, rfl, hw, B, D, fun _ => by show s ∉ varsOf (d.nodes.take 0); simp [varsOf]⟩
      case round =>
        clear hw B D b_0 d_0 d_1 d_2 d_3 hsB hsD
        obtain ⟨j, hj, rfl, hw, B, D, hI⟩ := hrel
        have b_0 := B.box1; have hsB := World.block_lt_of_cell? _ _ b_0; dsimp only at hsB; obtain ⟨d_0, d_1, d_2, d_3⟩ := D.box4; have hsD := World.block_lt_of_cell? _ _ d_0; dsimp only at hsD
        by_cases hjk : j < k
        · obtain ⟨b3, o3, y, s3, _, hpa, P3, hy, r3⟩ := (h0.out.below GDNode.good hw).get hn (show j < n by omega)
          obtain ⟨rfl, rfl⟩ : b3 = b1 ∧ o3 = o1 := by injection hpa with h; injection h with h1 h2; exact ⟨h1.symm, h2.symm⟩
          obtain ⟨yd, yn, ys, yks⟩ := y
          obtain ⟨y0, rfl, -, -⟩ := hy
          obtain ⟨f_0, f_1, f_2, f_3⟩ := r3.cells4
          have hbj := World.block_lt_of_cell? _ _ f_0
          dsimp only at hbj
          have P3' := P3.out
          have hin : ∀ (h : yd = 2) (h' : ys = s), s ∈ varsOf (d.nodes.take k) := fun h h' => mem_varsOf.2 ⟨_, List.mem_take_iff_getElem.2 ⟨j, by have := (List.getElem?_eq_some_iff.1 P3').1; omega, (List.getElem?_eq_some_iff.1 P3').2⟩, h, h'⟩
          have hnext : (kd = 2 → yd = 2 → ys ≠ s) → (kd = 2 → s ∉ varsOf (d.nodes.take (j + 1))) := fun h hk2 => by
            rw [take_snoc' P3', varsOf_snoc]
            intro hm
            rcases List.mem_append.1 hm with h1 | h1
            · exact hI.out hk2 h1
            · dsimp only at h1
              split at h1
              · rename_i h2; simp only [List.mem_singleton] at h1; exact h hk2 h2 h1.symm
              · cases h1
          have hse : (ys.toList == s.toList) = true ↔ ys = s := by rw [beq_iff_eq]; exact toList_eq _ _
          clear r3 P3 P3' hI hpa
          have hway : ((kd == 2) = true ∧ (yd == 2) = true ∧ (ys.toList == s.toList) = true ∧ patOk d = false) ∨ (((kd == 2) = false ∨ (kd == 2) = true ∧ (yd == 2) = false ∨ (kd == 2) = true ∧ (yd == 2) = true ∧ (ys.toList == s.toList) = false) ∧ (kd = 2 → s ∉ varsOf (d.nodes.take (j + 1)))) := by
            cases e1 : (kd == 2)
            · exact .inr ⟨.inl rfl, hnext fun h => by simp [h] at e1⟩
            · cases e2 : (yd == 2)
              · exact .inr ⟨.inr (.inl ⟨rfl, rfl⟩), hnext fun _ h => by simp [h] at e2⟩
              · cases e3 : (ys.toList == s.toList)
                · exact .inr ⟨.inr (.inr ⟨rfl, rfl, rfl⟩), hnext fun _ _ h => by rw [hse.2 h] at e3; cases e3⟩
                · exact .inl ⟨rfl, rfl, rfl, htwice.out (by simpa using e1) (hin (by simpa using e2) (hse.1 e3))⟩
          clear hin hnext hse
          rcases hway with ⟨e1, e2, e3, hres⟩ | ⟨hno, hI⟩
          · replace hres := Lib.hid hres
            go_upto_region 11 with fail
            (refine wp_region_ext_lit (by kernel_rfl) (by kernel_rfl) ?_; (repeat (any_goals (first | go_big_quiet_step ((first | fail)) | quiet_step ((first | fail)) | (refine wpQuiet_step (fun K hK => ?_); go_simp; split <;> (refine hK _ ?_; clear hK K))))); all_goals (refine wpQuiet_nil ?_; rintro w1 ⟨⟨w2, hb⟩, rfl⟩; have hw := hw.trans (hb.mono hw.size); have B := B.below hb; have b_0 := B.box1; have hsB := World.block_lt_of_cell? _ _ b_0; dsimp only at hsB; have D := D.below hb; obtain ⟨d_0, d_1, d_2, d_3⟩ := D.box4; have hsD := World.block_lt_of_cell? _ _ d_0; dsimp only at hsD; clear hb))
            all_goals go_wp2_with fail
            all_goals go_returns
            all_goals exact ⟨by rw [hres.out]; rfl, hw⟩
          · replace hI := Lib.hid hI
            rcases hno with e1 | ⟨e1, e2⟩ | ⟨e1, e2, e3⟩
            all_goals go_upto_region 11 with fail
            all_goals (refine wp_region_ext_lit (by kernel_rfl) (by kernel_rfl) ?_; (repeat (any_goals (first | go_big_quiet_step ((first | fail)) | quiet_step ((first | fail)) | (refine wpQuiet_step (fun K hK => ?_); go_simp; split <;> (refine hK _ ?_; clear hK K))))); all_goals (refine wpQuiet_nil ?_; rintro w1 ⟨⟨w2, hb⟩, rfl⟩; have hw := hw.trans (hb.mono hw.size); have B := B.below hb; have b_0 := B.box1; have hsB := World.block_lt_of_cell? _ _ b_0; dsimp only at hsB; have D := D.below hb; obtain ⟨d_0, d_1, d_2, d_3⟩ := D.box4; have hsD := World.block_lt_of_cell? _ _ d_0; dsimp only at hsD; clear hb))
            all_goals go_wp2_with fail
            all_goals go_roundw
            all_goals first | exact ⟨j + 1, by omega, by go_num, hw, B, D, hI⟩ | (simp [intOf]; omega)
        · obtain rfl : j = k := by omega
          go_wp2_with fail
          go_roundw
          case rel => exact ⟨j + 1, by omega, by go_num, hw, B, hstep.out trivial, by
            show (varsOf _).Nodup
            rw [htk.out]
            split
            · rename_i h2; rw [List.nodup_append]; exact ⟨hV.out, by simp, fun a ha b hb => by simp only [List.mem_singleton] at hb; subst hb; exact fun e => hI.out h2 (e ▸ ha)⟩
            · rw [List.append_nil]; exact hV.out⟩
          case measure => simp [intOf]; omega
    · obtain rfl : k = n := by omega
      have CE' := fun W (hW : Below wr.heap.size wr W) => CE.out W (hw.trans (hW.mono hw.size))
      have hgood := patOk_good (d := d) (by have := hn.out; omega) (by have := hn.out; omega) (hn.out ▸ hF.out) (hn.out ▸ hV.out)
      have hE : endsK d.nodes.length (kidsAt d.nodes) (d.nodes.length + 1) 0 = ends d.nodes (d.nodes.length + 1) 0 := (ends_eq _ _ _).symm
      rw [hE] at hgood
      rw [← hn.out] at hgood CE'
      replace hgood := Lib.hid hgood
      generalize ends d.nodes (k + 1) 0 = E at *
      replace CE' := Lib.hid CE'
      go_wp2_with fail
      (refine wp_region_ext_lit (by kernel_rfl) (by kernel_rfl) ?_; (repeat (any_goals (first | go_big_quiet_step ((first | (go_at_call 103; exact Calls.ext (CE'.out _ (Subtype.property _))))) | quiet_step ((first | (go_at_call 103; exact Calls.ext (CE'.out _ (Subtype.property _))))) | (refine wpQuiet_step (fun K hK => ?_); go_simp; split <;> (refine hK _ ?_; clear hK K))))); all_goals (refine wpQuiet_nil ?_; rintro w1 ⟨⟨w2, hb⟩, rfl⟩; have hw := hw.trans (hb.mono hw.size); have B := B.below hb; have b_0 := B.box1; have hsB := World.block_lt_of_cell? _ _ b_0; dsimp only at hsB; clear hb))
      all_goals go_wp2_with fail
      all_goals go_returns
      all_goals exact ⟨by rw [hgood.out]; rfl, hw⟩

end Go.Proofs.YtaimekaagmcmnaaGreat

/- A program's node: what the reference asks; plain law. -/
namespace Go.Proofs.YtaimekaagmcmnaaGreat
open Go.RowKit
set_option linter.unusedVariables false
set_option linter.unusedSimpArgs false

def patsOk (ps : List GPat) : Bool := ps.all fun q => patOk (patD q)
def kidsIn (n : Nat) (ks : List Int) : Bool := ks.all fun k => decide (0 ≤ k) && decide (k < (n : Int))
def nodSpec (N : List GNode) (x : GNode) : Bool := kidsIn N.length x.kids && (nodOk N x && patsOk x.pats)
def badA (x : GNode) : Bool := ((((decide (x.kind < 1) || decide (19 < x.kind)) || decide (x.at_ < 0)) || (x.kind != 1 && x.n != 0)) || decide (x.n < 0)) || decide (4611686018427387903 < x.n)
def nodRest (N : List GNode) (x : GNode) : Bool :=
  if x.kind = 3 ∨ x.kind = 5 ∨ x.kind = 7 ∨ x.kind = 15 then nameOk x.s && ((x.pats.length : Int) == 0 && (x.kids.length : Int) == arP x.kind)
  else if x.kind = 8 then nameOk x.s && (((x.kids.length : Int) == 2 && firstK N x.kids == 5) && (x.pats.length : Int) == 0)
  else if x.kind = 10 then primOk x.s && ((x.pats.length : Int) == 0 && (x.kids.length : Int) == arP x.kind)
  else if x.kind = 2 then ((x.pats.length : Int) == 0 && (x.kids.length : Int) == arP x.kind)
  else if x.kind = 4 then ((x.pats.length : Int) == 0 && conShape x.s x.kids.length ((x.kids.length : Int) == 1 && firstK N x.kids == 11))
  else if x.kind = 13 then x.s.toList.isEmpty && (patsOk x.pats && (decide (2 ≤ (x.kids.length : Int)) && (x.pats.length : Int) == (x.kids.length : Int) - 1))
  else x.s.toList.isEmpty && ((x.pats.length : Int) == 0 && (x.kids.length : Int) == arP x.kind)
theorem patsOk_nil {ps : List GPat} (h : ((ps.length : Int) == 0) = true) : patsOk ps = true := by
  have : ps = [] := List.length_eq_zero_iff.1 (by have := eq_of_beq h; omega)
  subst this; rfl
theorem nodSpec_eq (N : List GNode) (x : GNode) : nodSpec N x = (!badA x && (kidsIn N.length x.kids && nodRest N x)) := by
  obtain ⟨kd, at_, nn, s, ks, ps⟩ := x
  unfold nodSpec nodOk nodBad nodBody badA nodRest nameN
  dsimp only
  generalize kidsIn N.length ks = ki
  have hps := patsOk_nil (ps := ps)
  have hp0 : decide (0 < (ps.length : Int)) = !((ps.length : Int) == 0) := by
    cases h : ((ps.length : Int) == 0)
    · have := beq_eq_false_iff_ne.1 h; exact decide_eq_true (by omega)
    · have := eq_of_beq h; exact decide_eq_false (by omega)
  have hp1 : decide (0 < ps.length) = !((ps.length : Int) == 0) := by rw [← hp0, decide_eq_decide]; omega
  have e13 : (decide (1 ≤ (ps.length : Int)) && (ks.length : Int) == (ps.length : Int) + 1) = (decide (2 ≤ (ks.length : Int)) && (ps.length : Int) == (ks.length : Int) - 1) := by
    rw [Bool.eq_iff_iff]; simp; omega
  have nz : nn ≠ 0 → (nn != 0) = true := fun h => by simpa using h
  generalize patsOk ps = po at *
  generalize nameOk s = no
  generalize primOk s = pr
  generalize s.toList.isEmpty = se
  generalize firstK N ks = fk
  by_cases hz : nn = 0
  · subst hz
    rcases kind19 kd with rfl | rfl | rfl | rfl | rfl | rfl | rfl | rfl | rfl | rfl | rfl | rfl | rfl | rfl | rfl | rfl | rfl | rfl | rfl | hk
    case inr.inr.inr.inr.inr.inr.inr.inr.inr.inr.inr.inr.inr.inr.inr.inr.inr.inr.inr =>
      have : (decide (kd < 1) || decide (19 < kd)) = true := by simpa using hk
      rw [this]
      have e : ∀ j : Int, 1 ≤ j → j ≤ 19 → ¬ kd = j := fun j h1 h2 => by omega
      have n1 := e 1 (by omega) (by omega); have n2 := e 2 (by omega) (by omega); have n3 := e 3 (by omega) (by omega); have n4 := e 4 (by omega) (by omega); have n5 := e 5 (by omega) (by omega); have n6 := e 6 (by omega) (by omega); have n7 := e 7 (by omega) (by omega); have n8 := e 8 (by omega) (by omega); have n9 := e 9 (by omega) (by omega); have n10 := e 10 (by omega) (by omega); have n11 := e 11 (by omega) (by omega); have n12 := e 12 (by omega) (by omega); have n13 := e 13 (by omega) (by omega); have n14 := e 14 (by omega) (by omega); have n15 := e 15 (by omega) (by omega); have n16 := e 16 (by omega) (by omega); have n17 := e 17 (by omega) (by omega); have n18 := e 18 (by omega) (by omega); have n19 := e 19 (by omega) (by omega)
      simp [n1, n2, n3, n4, n5, n6, n7, n8, n9, n10, n11, n12, n13, n14, n15, n16, n17, n18, n19]
    all_goals simp [arP, hp0]
    all_goals try simp only [bne, hp1]
    case pos.inr.inr.inr.inr.inr.inr.inr.inr.inr.inr.inr.inr.inl =>
      rw [e13]
      generalize (decide (2 ≤ (ks.length : Int)) && (ps.length : Int) == (ks.length : Int) - 1) = q
      generalize decide (at_ < 0) = a
      cases ki <;> cases a <;> cases se <;> cases po <;> cases q <;> rfl
    all_goals generalize ((ps.length : Int) == 0) = pz at *
    all_goals generalize decide (at_ < 0) = a
    all_goals clear hp0 hp1 e13
    all_goals (try generalize conShape s _ _ = cs)
    all_goals (try generalize ((ks.length : Int) == _) = kz)
    all_goals (try generalize (fk == 5) = f5)
    all_goals
      cases pz with
      | false => cases ki <;> cases a <;> simp
      | true =>
        obtain rfl := hps rfl
        cases ki <;> cases a <;> (try simp) <;> (try (cases kz <;> simp))
  · rw [nz hz]
    by_cases h1 : kd = 1
    · subst h1
      simp [arP, hp0]
      have q1 : decide (nn < 0) = !decide (0 ≤ nn) := by rw [← decide_not, decide_eq_decide]; omega
      have q2 : decide (4611686018427387903 < nn) = !decide (nn ≤ 4611686018427387903) := by rw [← decide_not, decide_eq_decide]; omega
      simp only [bne, hp1, q1, q2]
      generalize decide (0 ≤ nn) = r1
      generalize decide (nn ≤ 4611686018427387903) = r2
      generalize ((ps.length : Int) == 0) = pz at *
      generalize decide (at_ < 0) = a
      generalize ((ks.length : Int) == _) = kz
      clear hp0 hp1 e13 q1 q2
      cases pz with
      | false => cases ki <;> cases a <;> cases r1 <;> cases r2 <;> simp
      | true =>
        obtain rfl := hps rfl
        cases ki <;> cases a <;> cases r1 <;> cases r2 <;> (try simp) <;> (try (cases kz <;> simp))
    · have h1' : (kd != 1) = true := by simpa using h1
      by_cases h3 : kd = 3
      · subst h3
        have h0 : (nn == 0) = false := by simpa using hz
        simp [h0, hz]
      · have h3' : (kd != 3) = true := by simpa using h3
        rw [h1', h3']
        simp
end Go.Proofs.YtaimekaagmcmnaaGreat
