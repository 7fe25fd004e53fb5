/- Parts of the proof, merged: DataOk2. -/
import Derived.Test.YtnmmfcnkpcigoaaGreatDe16
/- DataOk: the reference's. -/
namespace Go.Proofs.YtnmmfcnkpcigoaaGreat
open Go.RowKit
set_option linter.unusedVariables false
set_option linter.unusedSimpArgs false
attribute [local go_sem] Ext.cell

theorem dataOk_bad {d : GData} {i : Nat} {x : GDNode} (hx : d.nodes[i]? = some x) (h : nodeOk d.nodes x = false) : dataOk d = false := by
  have : (d.nodes.any fun x => !nodeOk d.nodes x) = true := List.any_eq_true.2 ⟨x, List.mem_of_getElem? hx, by rw [h]; rfl⟩
  unfold dataOk
  rw [this]
  simp
theorem dataOk_good {d : GData} (h0 : 1 ≤ d.nodes.length) (h6 : d.nodes.length ≤ 600) (h : ∀ y ∈ d.nodes.take d.nodes.length, nodeOk d.nodes y = true) : dataOk d = decide (ends d.nodes (d.nodes.length + 1) 0 = d.nodes.length) := by
  have : (d.nodes.any fun x => !nodeOk d.nodes x) = false := List.any_eq_false.2 fun y hy => by rw [h y (by rw [List.take_length]; exact hy)]; decide
  unfold dataOk
  rw [this, ends_eq, decide_eq_true (by omega)]
  simp
  rfl
theorem all_step {d : GData} {i : Nat} {x : GDNode} (h : ∀ y ∈ d.nodes.take i, nodeOk d.nodes y = true) (hx : d.nodes[i]? = some x) (hq : nodeOk d.nodes x = true) : ∀ y ∈ d.nodes.take (i + 1), nodeOk d.nodes y = true := by
  rw [take_snoc' hx]
  intro y hy
  rcases List.mem_append.1 hy with h' | h'
  · exact h y h'
  · simp at h'; subst h'; exact hq

theorem nodeOk_kind (l : List GDNode) (kd nn : Int) (s : ByteArray) (ks : List Int) :
    (kd = 6 ∧ nodeOk l ⟨kd, nn, s, ks⟩ = (((ks.length : Int) == 0) && ((nn == 0) && s.toList.isEmpty))) ∨
    (kd = 2 ∧ nodeOk l ⟨kd, nn, s, ks⟩ = (((ks.length : Int) == 0) && (nn == 0))) ∨
    (kd = 3 ∧ nodeOk l ⟨kd, nn, s, ks⟩ = (((ks.length : Int) == 0) && (s.toList.isEmpty && (wrap63 nn == nn)))) ∨
    (kd = 4 ∧ nodeOk l ⟨kd, nn, s, ks⟩ = ((nn == 0) && conShape s ks.length (pairOf l ks))) ∨
    (kd = 5 ∧ nodeOk l ⟨kd, nn, s, ks⟩ = (((ks.length : Int) == 2) && ((nn == 0) && s.toList.isEmpty))) ∨
    ((kd == 6) = false ∧ (kd == 2) = false ∧ (kd == 3) = false ∧ (kd == 4) = false ∧ (kd == 5) = false ∧ nodeOk l ⟨kd, nn, s, ks⟩ = false) := by
  unfold nodeOk
  dsimp only
  by_cases h6 : kd = 6
  · subst h6; exact .inl ⟨rfl, rfl⟩
  by_cases h2 : kd = 2
  · subst h2; exact .inr (.inl ⟨rfl, rfl⟩)
  by_cases h3 : kd = 3
  · subst h3
    refine .inr (.inr (.inl ⟨rfl, ?_⟩))
    have : (wrap63 nn == nn) = decide (-4611686018427387904 ≤ nn ∧ nn ≤ 4611686018427387903) := by
      show decide (wrap63 nn = nn) = _
      simp only [wrap63_eq]
    rw [this, if_pos rfl]
  by_cases h4 : kd = 4
  · subst h4; exact .inr (.inr (.inr (.inl ⟨rfl, rfl⟩)))
  by_cases h5 : kd = 5
  · subst h5; exact .inr (.inr (.inr (.inr (.inl ⟨rfl, rfl⟩))))
  refine .inr (.inr (.inr (.inr (.inr ⟨by simpa using h6, by simpa using h2, by simpa using h3, by simpa using h4, by simpa using h5, ?_⟩))))
  rw [if_neg h3, if_neg h2, if_neg h6, if_neg h5, if_neg h4]

set_option maxRecDepth 100000 in
set_option maxHeartbeats 8000000 in
theorem specDataOk_c (d : GData) (hd : d.nodes.length ≤ 1152921504606846976) (r : List Value) (lo : Nat) (w : World) (hr : GData.R lo w r d) :
    Calls Tryz.prog 14 #[.agg r.toArray] w fun e w' => e = .returned (.bool (dataOk d)) ∧ Below w.heap.size w w' := by
  have Hr := hr
  obtain ⟨u, rfl, -, hu⟩ := hr
  obtain ⟨a, c, rfl, ul, um, h0⟩ := hu
  have CE := fun W (hW : Below w.heap.size w W) => l07End_c d hd (d.nodes.length + 1) 0 [.slice a d.nodes.length c] lo W (GData.good.below Hr hW) (by omega)
  replace CE := Lib.hid CE
  replace h0 := Lib.hid h0
  clear Hr
  obtain ⟨n, hn⟩ : ∃ n, n = d.nodes.length := ⟨_, rfl⟩
  rw [← hn] at ul hd ⊢
  replace hn := Lib.hid hn
  by_cases hs : n < 1
  · have d1 : decide ((n : Int) < 1) = true := decide_eq_true (by omega)
    go_enter Tryz.func14, Tryz.ntmps14
    go_wp2_with fail
    go_returns
    exact ⟨by unfold dataOk; rw [← hn.out, decide_eq_false (by omega)]; rfl, by go_grown⟩
  by_cases hb : 600 < n
  · have d1 : decide ((n : Int) < 1) = false := decide_eq_false (by omega)
    have d2 : decide (600 < (n : Int)) = true := decide_eq_true (by omega)
    have d2' : decide (600 < n) = true := decide_eq_true (by omega)
    go_enter Tryz.func14, Tryz.ntmps14
    go_wp2_with fail
    go_returns
    exact ⟨by unfold dataOk; rw [← hn.out, decide_eq_false (by omega)]; rfl, by go_grown⟩
  have d1 : decide ((n : Int) < 1) = false := decide_eq_false (by omega)
  have d2 : decide (600 < (n : Int)) = false := decide_eq_false (by omega)
  have d2' : decide (600 < n) = false := decide_eq_false (by omega)
  go_enter Tryz.func14, Tryz.ntmps14
  go_upto_region 1 with fail
  have B : RowAt (w.alloc (.cells #[.slice a n c] 34)) (w.heap.size) 0 [.slice a n c] := RowAt.box w #[.slice a n c] 34
  have hw : Below w.heap.size w (w.alloc (.cells #[.slice a n c] 34)) := by go_grown
  generalize (w.alloc (.cells #[.slice a n c] 34)) = w0 at *
  have b_0 := B.box1; have hsB := World.block_lt_of_cell? _ _ b_0; dsimp only at hsB
  go_wp2_with fail
  go_loopw [20] (fun i wr => ∃ k : Nat, k ≤ n ∧ i = .int .i64 k ∧ Below w.heap.size w wr ∧ RowAt wr w.heap.size 0 [.slice a n c] ∧ Hid (∀ y ∈ d.nodes.take k, nodeOk d.nodes y = true)) (fun i _ => n - (intOf i).toNat)
  case atStart => exact ⟨0, by omega, rfl, hw, B, fun y hy => by simp at hy⟩
  case round =>
    clear hw B b_0 hsB
    obtain ⟨k, hk, rfl, hw, B, hF⟩ := hrel
    have b_0 := B.box1; have hsB := World.block_lt_of_cell? _ _ b_0; dsimp only at hsB
    by_cases hlt : k < n
    · obtain ⟨b1, o1, x, s1, _, rfl, P1, hx, r1⟩ := (h0.out.below GDNode.good hw).get hn hlt
      obtain ⟨kd, nn, s, ks⟩ := x
      obtain ⟨u0, rfl, hwf, hkd⟩ := hx
      obtain ⟨ka, kc, rfl, kl, km, k0⟩ := hkd
      have hnn : I64 nn := hwf.2.1
      have hss : StrOk s := hwf.2.2
      dsimp only at r1 kl k0 hwf
      obtain ⟨m, hm⟩ : ∃ m, m = ks.length := ⟨_, rfl⟩
      rw [← hm] at r1 kl
      replace hm := Lib.hid hm
      obtain ⟨e_0, e_1, e_2, e_3⟩ := r1.cells4
      clear r1 hwf
      replace k0 := Lib.hid k0
      go_upto_region 6 with fail
      have hz := hw.size
      have B' := B.below (show Below wr.heap.size wr (wr.alloc (.cells #[.int .i64 kd, .int .i64 nn, .string s, .slice ka m kc] 69)) by go_grown)
      have D : RowAt (wr.alloc (.cells #[.int .i64 kd, .int .i64 nn, .string s, .slice ka m kc] 69)) wr.heap.size 0 [.int .i64 kd, .int .i64 nn, .string s, .slice ka m kc] := RowAt.box _ _ _
      have hw' : Below w.heap.size w (wr.alloc (.cells #[.int .i64 kd, .int .i64 nn, .string s, .slice ka m kc] 69)) := by go_grown
      have hw1 : Below wr.heap.size wr (wr.alloc (.cells #[.int .i64 kd, .int .i64 nn, .string s, .slice ka m kc] 69)) := by go_grown
      generalize wr.alloc (.cells #[.int .i64 kd, .int .i64 nn, .string s, .slice ka m kc] 69) = w1 at *
      clear hw B b_0 hsB e_0 e_1 e_2 e_3 hz
      have hw := hw'; have B := B'; clear hw' B'
      generalize hp : pairOf d.nodes ks = p
      replace hp := Lib.hid hp
      go_cut [5] (fun sx wx => sx = .bool p ∧ Below w.heap.size w wx ∧ RowAt wx w.heap.size 0 [.slice (some ⟨b1, o1, none⟩) n c] ∧ RowAt wx wr.heap.size 0 [.int .i64 kd, .int .i64 nn, .string s, .slice ka m kc])
      case first =>
        have b_0 := B.box1; have hsB := World.block_lt_of_cell? _ _ b_0; dsimp only at hsB; obtain ⟨d_0, d_1, d_2, d_3⟩ := D.box4; have hsD := World.block_lt_of_cell? _ _ d_0; dsimp only at hsD
        by_cases h1 : m = 1
        · subst h1
          obtain ⟨b2, o2, j, s2, _, rfl, P2, ⟨rfl, hj64⟩, r2⟩ := (k0.out.below IntR.good hw1).get (k := 0) hm (by omega)
          have e1 : w1.cell? ⟨b2, o2, none⟩ = some (.int .i64 j) := by simpa using r2 0 _ rfl
          have hbj := World.block_lt_of_cell? _ _ e1
          dsimp only at hbj
          have hks : ks = [j] := by
            obtain ⟨y, rfl⟩ := List.length_eq_one_iff.1 hm.out.symm
            have := P2.out
            simpa using this
          have hp' : (kindAt d.nodes j == 5) = p := by rw [← hp.out, hks]; rfl
          clear r2 P2 hks
          by_cases hj0 : 0 ≤ j
          · obtain ⟨i, rfl⟩ : ∃ i : Nat, j = i := ⟨j.toNat, by omega⟩
            have hd0 : decide ((0 : Int) ≤ (i : Int)) = true := by simp
            by_cases hj1 : i < n
            · obtain ⟨b3, o3, y, s3, _, hpa, P3, hy, r3⟩ := (h0.out.below GDNode.good hw).get hn hj1
              obtain ⟨rfl, rfl⟩ : b3 = b1 ∧ o3 = o1 := by injection hpa with h; injection h with h1 h2; exact ⟨h1.symm, h2.symm⟩
              obtain ⟨y0, rfl, -, -⟩ := hy
              have e2 : w1.cell? ⟨b3, o3 + i * 4, none⟩ = some (.int .i64 y.kind) := by simpa using r3 0 _ rfl
              have hb3 := World.block_lt_of_cell? _ _ e2
              dsimp only at hb3
              have hp5 : (y.kind == 5) = p := by
                rw [← hp']
                unfold kindAt
                simp [P3.out]
              generalize y.kind = yk at *
              replace hp5 := Lib.hid hp5
              have hd1 : decide ((i : Int) < (n : Int)) = true := decide_eq_true (by omega)
              have hd1' : decide (i < n) = true := decide_eq_true (by omega)
              clear hp' r3 P3 hpa
              (refine wp_region_ext_lit (by kernel_rfl) (by kernel_rfl) ?_; (repeat (any_goals (first | go_big_quiet_step ((first | fail)) | quiet_step ((first | fail)) | (refine wpQuiet_step (fun K hK => ?_); go_simp; split <;> (refine hK _ ?_; clear hK K))))); all_goals (refine wpQuiet_nil ?_; rintro w1 ⟨⟨w2, hb⟩, rfl⟩; have hw := hw.trans (hb.mono hw.size); have B := B.below hb; have b_0 := B.box1; have hsB := World.block_lt_of_cell? _ _ b_0; dsimp only at hsB; have D := D.below hb; obtain ⟨d_0, d_1, d_2, d_3⟩ := D.box4; have hsD := World.block_lt_of_cell? _ _ d_0; dsimp only at hsD; clear hb))
              all_goals go_wp2_with fail
              all_goals go_meet
              all_goals exact ⟨by rw [← hp5.out], hw, B, D⟩
            · have hp5 : false = p := by
                rw [← hp']
                unfold kindAt
                rw [List.getElem?_eq_none (by have := hn.out; omega)]
                simp
              subst hp5
              have hd1 : decide ((i : Int) < (n : Int)) = false := decide_eq_false (by omega)
              have hd1' : decide (i < n) = false := decide_eq_false (by omega)
              clear hp'
              (refine wp_region_ext_lit (by kernel_rfl) (by kernel_rfl) ?_; (repeat (any_goals (first | go_big_quiet_step ((first | fail)) | quiet_step ((first | fail)) | (refine wpQuiet_step (fun K hK => ?_); go_simp; split <;> (refine hK _ ?_; clear hK K))))); all_goals (refine wpQuiet_nil ?_; rintro w1 ⟨⟨w2, hb⟩, rfl⟩; have hw := hw.trans (hb.mono hw.size); have B := B.below hb; have b_0 := B.box1; have hsB := World.block_lt_of_cell? _ _ b_0; dsimp only at hsB; have D := D.below hb; obtain ⟨d_0, d_1, d_2, d_3⟩ := D.box4; have hsD := World.block_lt_of_cell? _ _ d_0; dsimp only at hsD; clear hb))
              all_goals go_wp2_with fail
              all_goals go_meet
              all_goals exact ⟨rfl, hw, B, D⟩
          · have hp5 : false = p := by
              rw [← hp']
              unfold kindAt
              rw [if_neg hj0]; rfl
            subst hp5
            have hd0 : decide ((0 : Int) ≤ j) = false := decide_eq_false hj0
            clear hp' hj0
            (refine wp_region_ext_lit (by kernel_rfl) (by kernel_rfl) ?_; (repeat (any_goals (first | go_big_quiet_step ((first | fail)) | quiet_step ((first | fail)) | (refine wpQuiet_step (fun K hK => ?_); go_simp; split <;> (refine hK _ ?_; clear hK K))))); all_goals (refine wpQuiet_nil ?_; rintro w1 ⟨⟨w2, hb⟩, rfl⟩; have hw := hw.trans (hb.mono hw.size); have B := B.below hb; have b_0 := B.box1; have hsB := World.block_lt_of_cell? _ _ b_0; dsimp only at hsB; have D := D.below hb; obtain ⟨d_0, d_1, d_2, d_3⟩ := D.box4; have hsD := World.block_lt_of_cell? _ _ d_0; dsimp only at hsD; clear hb))
            all_goals go_wp2_with fail
            all_goals go_meet
            all_goals exact ⟨rfl, hw, B, D⟩
        · have hp5 : false = p := by
            rw [← hp.out]
            unfold pairOf
            have := hm.out
            match ks, this with
            | [], _ => rfl
            | [a], h => exact absurd h h1
            | a :: b :: c, _ => rfl
          subst hp5
          have e1 : ((m : Int) == 1) = false := by simp; omega
          clear h1
          (refine wp_region_ext_lit (by kernel_rfl) (by kernel_rfl) ?_; (repeat (any_goals (first | go_big_quiet_step ((first | fail)) | quiet_step ((first | fail)) | (refine wpQuiet_step (fun K hK => ?_); go_simp; split <;> (refine hK _ ?_; clear hK K))))); all_goals (refine wpQuiet_nil ?_; rintro w1 ⟨⟨w2, hb⟩, rfl⟩; have hw := hw.trans (hb.mono hw.size); have B := B.below hb; have b_0 := B.box1; have hsB := World.block_lt_of_cell? _ _ b_0; dsimp only at hsB; have D := D.below hb; obtain ⟨d_0, d_1, d_2, d_3⟩ := D.box4; have hsD := World.block_lt_of_cell? _ _ d_0; dsimp only at hsD; clear hb))
          all_goals go_wp2_with fail
          all_goals go_meet
          all_goals exact ⟨rfl, hw, B, D⟩
      obtain ⟨rfl, hw, B, D⟩ := hcut
      have b_0 := B.box1; have hsB := World.block_lt_of_cell? _ _ b_0; dsimp only at hsB; obtain ⟨d_0, d_1, d_2, d_3⟩ := D.box4; have hsD := World.block_lt_of_cell? _ _ d_0; dsimp only at hsD
      have hC := nodeOk_kind d.nodes kd nn s ks
      rw [hp.out, ← hm.out] at hC
      have c70 := fun W => l04ConOk_c s m p hss W
      have c69 := fun W => Wrap_c nn hnn W
      generalize conShape s m p = cs at *
      generalize wrap63 nn = wn at *
      generalize hq : nodeOk d.nodes ⟨kd, nn, s, ks⟩ = q at hC
      have P1' := P1.out
      have hstep : Hid (q = true → ∀ y ∈ d.nodes.take (k + 1), nodeOk d.nodes y = true) := fun h => all_step hF.out P1' (hq.trans h)
      have hbad : Hid (q = false → dataOk d = false) := fun h => dataOk_bad P1' (hq.trans h)
      clear hq P1 P1' hF hm hp k0 hw1
      rcases hC with ⟨rfl, rfl⟩ | ⟨rfl, rfl⟩ | ⟨rfl, rfl⟩ | ⟨rfl, rfl⟩ | ⟨rfl, rfl⟩ | ⟨h6, h2, h3, h4, h5, rfl⟩
      · cases e0 : ((m : Int) == 0) <;> cases e1 : (nn == 0) <;> cases e2 : s.toList.isEmpty
        all_goals rw [e0, e1, e2] at hstep hbad
        all_goals go_wp2_with fail
        all_goals first
          | (go_returns
             exact ⟨by rw [hbad.out rfl]; rfl, hw⟩)
          | (go_roundw
             case rel => exact ⟨k + 1, by omega, by go_num, hw, B, hstep.out rfl⟩
             case measure => simp [intOf]; omega)
      · cases e0 : ((m : Int) == 0) <;> cases e1 : (nn == 0)
        all_goals rw [e0, e1] at hstep hbad
        all_goals go_wp2_with fail
        all_goals first
          | (go_returns
             exact ⟨by rw [hbad.out rfl]; rfl, hw⟩)
          | (go_roundw
             case rel => exact ⟨k + 1, by omega, by go_num, hw, B, hstep.out rfl⟩
             case measure => simp [intOf]; omega)
      · cases e0 : ((m : Int) == 0) <;> cases e1 : (wn == nn) <;> cases e2 : s.toList.isEmpty
        all_goals rw [e0, e1, e2] at hstep hbad
        all_goals go_upto_region 14 with fail
        all_goals (refine wp_region_ext_lit (by kernel_rfl) (by kernel_rfl) ?_; (repeat (any_goals (first | go_big_quiet_step ((first | (go_at_call 33; exact Calls.ext_same (c69 _)))) | quiet_step ((first | (go_at_call 33; exact Calls.ext_same (c69 _)))) | (refine wpQuiet_step (fun K hK => ?_); go_simp; split <;> (refine hK _ ?_; clear hK K))))); all_goals (refine wpQuiet_nil ?_; rintro w1 ⟨⟨w2, hb⟩, rfl⟩; have hw := hw.trans (hb.mono hw.size); have B := B.below hb; have b_0 := B.box1; have hsB := World.block_lt_of_cell? _ _ b_0; dsimp only at hsB; have D := D.below hb; obtain ⟨d_0, d_1, d_2, d_3⟩ := D.box4; have hsD := World.block_lt_of_cell? _ _ d_0; dsimp only at hsD; clear hb))
        all_goals go_wp2_with fail
        all_goals first
          | (go_returns
             exact ⟨by rw [hbad.out rfl]; rfl, hw⟩)
          | (go_roundw
             case rel => exact ⟨k + 1, by omega, by go_num, hw, B, hstep.out rfl⟩
             case measure => simp [intOf]; omega)
      · cases e1 : (nn == 0) <;> cases cs
        all_goals rw [e1] at hstep hbad
        all_goals go_wp2_with (go_at_call 34; ((with_reducible refine (c70 _).mono ?_); rintro e w1 ⟨rfl, rfl⟩))
        all_goals first
          | (go_returns
             exact ⟨by rw [hbad.out rfl]; rfl, hw⟩)
          | (go_roundw
             case rel => exact ⟨k + 1, by omega, by go_num, hw, B, hstep.out rfl⟩
             case measure => simp [intOf]; omega)
      · cases e0 : ((m : Int) == 2) <;> cases e1 : (nn == 0) <;> cases e2 : s.toList.isEmpty
        all_goals rw [e0, e1, e2] at hstep hbad
        all_goals go_wp2_with fail
        all_goals first
          | (go_returns
             exact ⟨by rw [hbad.out rfl]; rfl, hw⟩)
          | (go_roundw
             case rel => exact ⟨k + 1, by omega, by go_num, hw, B, hstep.out rfl⟩
             case measure => simp [intOf]; omega)
      · replace hbad := Lib.hid (hbad.out rfl)
        clear hstep
        go_wp2_with fail
        go_returns
        exact ⟨by rw [hbad.out]; rfl, hw⟩
    · obtain rfl : k = n := by omega
      have CE' := fun W (hW : Below wr.heap.size wr W) => CE.out W (hw.trans (hW.mono hw.size))
      have hgood := dataOk_good (d := d) (by have := hn.out; omega) (by have := hn.out; omega) (hn.out ▸ hF.out)
      rw [← hn.out] at hgood CE'
      replace hgood := Lib.hid hgood
      generalize ends d.nodes (k + 1) 0 = E at *
      replace CE' := Lib.hid CE'
      go_wp2_with fail
      (refine wp_region_ext_lit (by kernel_rfl) (by kernel_rfl) ?_; (repeat (any_goals (first | go_big_quiet_step ((first | (go_at_call 35; exact Calls.ext (CE'.out _ (Subtype.property _))))) | quiet_step ((first | (go_at_call 35; exact Calls.ext (CE'.out _ (Subtype.property _))))) | (refine wpQuiet_step (fun K hK => ?_); go_simp; split <;> (refine hK _ ?_; clear hK K))))); all_goals (refine wpQuiet_nil ?_; rintro w1 ⟨⟨w2, hb⟩, rfl⟩; have hw := hw.trans (hb.mono hw.size); have B := B.below hb; have b_0 := B.box1; have hsB := World.block_lt_of_cell? _ _ b_0; dsimp only at hsB; clear hb))
      all_goals go_wp2_with fail
      all_goals go_returns
      all_goals exact ⟨by rw [hgood.out]; rfl, hw⟩

end Go.Proofs.YtnmmfcnkpcigoaaGreat
