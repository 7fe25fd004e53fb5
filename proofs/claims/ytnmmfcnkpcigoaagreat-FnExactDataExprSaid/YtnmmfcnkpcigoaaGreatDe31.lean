/- Parts of the proof, merged: TyOk2, TyOk3. -/
import Derived.Test.YtnmmfcnkpcigoaaGreatDe30
/- TyOk of both. -/
namespace Go.Proofs.YtnmmfcnkpcigoaaGreat
open Go.RowKit
set_option linter.unusedVariables false
set_option linter.unusedSimpArgs false
attribute [local go_sem] Ext.cell

set_option maxRecDepth 100000 in
set_option maxHeartbeats 4000000 in
theorem TyOk_c (x : GTy) (hl : x.items.length ≤ 1152921504606846976) (r : List Value) (lo : Nat) (w : World) (hr : GTy.R lo w r x) :
    Calls Tryz.prog 110 #[.agg r.toArray] w fun e w' => e = .returned (.bool (tyOk x)) ∧ Below w.heap.size w w' := by
  obtain ⟨u0, rfl, -, a0⟩ := hr
  have cT := fun W (hW : Below w.heap.size w W) => tyOk_c x.items hl u0 lo W (a0.below GTyItem.good hW)
  obtain ⟨a, c, rfl⟩ := a0.form
  unfold tyOk
  generalize tyGo 1 x.items = t at *
  generalize x.items.length = n at *
  clear a0
  replace cT := Lib.hid cT
  generalize hd : decide ((n : Int) ≤ 200) = d
  have hd2 : decide (n ≤ 200) = d := by rw [← hd, decide_eq_decide]; omega
  cases d
  all_goals
    show Calls Tryz.prog 110 #[.agg #[.slice a n c]] w _
    go_enter Tryz.func110, Tryz.ntmps110
    go_upto_region 1 with fail
    have D : RowAt (w.alloc (.cells #[.slice a n c] 79)) (w.heap.size) 0 [.slice a n c] := RowAt.box w #[.slice a n c] 79
    have hw : Below w.heap.size w (w.alloc (.cells #[.slice a n c] 79)) := by go_grown
    generalize (w.alloc (.cells #[.slice a n c] 79)) = w0 at *
    have d_0 := D.box1; have hsD := World.block_lt_of_cell? _ _ d_0; dsimp only at hsD
    go_wp2_with (go_at_call 118; ((with_reducible refine (cT.out _ hw).mono ?_); rintro e w1 ⟨rfl, hb⟩; have hw := hw.trans (hb.mono hw.size); have D := D.below hb; have d_0 := D.box1; have hsD := World.block_lt_of_cell? _ _ d_0; dsimp only at hsD; clear hb))
    go_returns
    exact ⟨rfl, hw⟩

set_option maxRecDepth 100000 in
set_option maxHeartbeats 4000000 in
theorem l04Item_c (x : GTyItem) (hx : x.wf) (w : World) :
    Calls Tryz.prog 101 #[.agg #[.int .i64 x.var, .string x.name, .int .i64 x.arity]] w fun e w' => e = .returned (.bool (itemOk x)) ∧ Below w.heap.size w w' := by
  obtain ⟨xv, xs, xa⟩ := x
  have cN := fun W => spec_NameOk_c xs hx.2.1 W
  have ev : decide (0 ≤ xv ∧ xv ≤ 9999) = (decide (0 ≤ xv) && decide (xv ≤ 9999)) := by rw [Bool.decide_and]
  have ea : decide (0 ≤ xa ∧ xa ≤ 2) = (decide (0 ≤ xa) && decide (xa ≤ 2)) := by rw [Bool.decide_and]
  have x1 : (xa == 1) = true → decide (0 ≤ xa) = true ∧ decide (xa ≤ 2) = true := fun h => by simp at h; subst h; simp
  have x2 : (xa == 2) = true → decide (0 ≤ xa) = true ∧ decide (xa ≤ 2) = true := fun h => by simp at h; subst h; simp
  have k12 : (xs.toList == sRef) = true → (xs.toList == sArrow) = false ∧ (xs.toList == sStar) = false := fun h => by rw [eq_of_beq h]; decide
  unfold itemOk tyNameOk
  dsimp only
  rw [ev, ea]
  unfold sRef sArrow sStar at *
  generalize nameOk xs = no at *
  have eb : ∀ y : Int, (y != 0) = !(y == 0) := fun y => rfl
  have e0 := eb xv
  clear hx ev ea eb
  obtain ⟨q1, hq1⟩ : ∃ q, decide (0 ≤ xv) = q := ⟨_, rfl⟩
  obtain ⟨q2, hq2⟩ : ∃ q, decide (xv ≤ 9999) = q := ⟨_, rfl⟩
  obtain ⟨q3, hq3⟩ : ∃ q, decide (0 ≤ xa) = q := ⟨_, rfl⟩
  obtain ⟨q4, hq4⟩ : ∃ q, decide (xa ≤ 2) = q := ⟨_, rfl⟩
  rw [hq1, hq2, hq3, hq4]
  rw [hq3, hq4] at x1 x2
  cases e1 : xs.toList.isEmpty
  · cases e2 : (xv == 0)
    · have e0' : (xv != 0) = true := by rw [e0, e2]; rfl
      clear e0 x1 x2 k12 hq1 hq2 hq3 hq4
      go_enter Tryz.func101, Tryz.ntmps101
      go_upto_region 1 with fail
      have D : RowAt (w.alloc (.cells #[.int .i64 xv, .string xs, .int .i64 xa] 117)) (w.heap.size) 0 [.int .i64 xv, .string xs, .int .i64 xa] := RowAt.box w #[.int .i64 xv, .string xs, .int .i64 xa] 117
      have hw : Below w.heap.size w (w.alloc (.cells #[.int .i64 xv, .string xs, .int .i64 xa] 117)) := by go_grown
      generalize (w.alloc (.cells #[.int .i64 xv, .string xs, .int .i64 xa] 117)) = w0 at *
      obtain ⟨d_0, d_1, d_2⟩ := D.box3; have hsD := World.block_lt_of_cell? _ _ d_0; dsimp only at hsD
      go_wp2_with (go_at_call 37; ((with_reducible refine (cN _).mono ?_); rintro e w1 ⟨rfl, hb⟩; have hw := hw.trans (hb.mono hw.size); have D := D.below hb; obtain ⟨d_0, d_1, d_2⟩ := D.box3; have hsD := World.block_lt_of_cell? _ _ d_0; dsimp only at hsD; clear hb))
      go_returns
      exact ⟨rfl, hw⟩
    · have e0' : (xv != 0) = false := by rw [e0, e2]; rfl
      clear e0 hq1 hq2
      cases b1 : (xs.toList == [114, 101, 102])
      · clear k12
        cases b2 : (xs.toList == [45, 62])
        · cases b3 : (xs.toList == [42])
          · clear x1 x2
            cases q3 <;> cases q4 <;> cases no
            all_goals
              go_enter Tryz.func101, Tryz.ntmps101
              go_upto_region 1 with fail
              have D : RowAt (w.alloc (.cells #[.int .i64 xv, .string xs, .int .i64 xa] 117)) (w.heap.size) 0 [.int .i64 xv, .string xs, .int .i64 xa] := RowAt.box w #[.int .i64 xv, .string xs, .int .i64 xa] 117
              have hw : Below w.heap.size w (w.alloc (.cells #[.int .i64 xv, .string xs, .int .i64 xa] 117)) := by go_grown
              generalize (w.alloc (.cells #[.int .i64 xv, .string xs, .int .i64 xa] 117)) = w0 at *
              obtain ⟨d_0, d_1, d_2⟩ := D.box3; have hsD := World.block_lt_of_cell? _ _ d_0; dsimp only at hsD
              go_wp2_with (go_at_call 37; ((with_reducible refine (cN _).mono ?_); rintro e w1 ⟨rfl, hb⟩; have hw := hw.trans (hb.mono hw.size); have D := D.below hb; obtain ⟨d_0, d_1, d_2⟩ := D.box3; have hsD := World.block_lt_of_cell? _ _ d_0; dsimp only at hsD; clear hb))
              go_returns
              exact ⟨rfl, hw⟩
          · cases a2 : (xa == 2)
            rotate_left
            obtain ⟨rfl, rfl⟩ := x2 a2
            rotate_left
            all_goals clear x1 x2 hq3 hq4
            cases q3 <;> cases q4
            all_goals
              go_enter Tryz.func101, Tryz.ntmps101
              go_upto_region 1 with fail
              have D : RowAt (w.alloc (.cells #[.int .i64 xv, .string xs, .int .i64 xa] 117)) (w.heap.size) 0 [.int .i64 xv, .string xs, .int .i64 xa] := RowAt.box w #[.int .i64 xv, .string xs, .int .i64 xa] 117
              have hw : Below w.heap.size w (w.alloc (.cells #[.int .i64 xv, .string xs, .int .i64 xa] 117)) := by go_grown
              generalize (w.alloc (.cells #[.int .i64 xv, .string xs, .int .i64 xa] 117)) = w0 at *
              obtain ⟨d_0, d_1, d_2⟩ := D.box3; have hsD := World.block_lt_of_cell? _ _ d_0; dsimp only at hsD
              go_wp2_with (go_at_call 37; ((with_reducible refine (cN _).mono ?_); rintro e w1 ⟨rfl, hb⟩; have hw := hw.trans (hb.mono hw.size); have D := D.below hb; obtain ⟨d_0, d_1, d_2⟩ := D.box3; have hsD := World.block_lt_of_cell? _ _ d_0; dsimp only at hsD; clear hb))
              go_returns
              exact ⟨rfl, hw⟩
        · cases a2 : (xa == 2)
          rotate_left
          obtain ⟨rfl, rfl⟩ := x2 a2
          rotate_left
          all_goals clear x1 x2 hq3 hq4
          cases q3 <;> cases q4
          all_goals
            go_enter Tryz.func101, Tryz.ntmps101
            go_upto_region 1 with fail
            have D : RowAt (w.alloc (.cells #[.int .i64 xv, .string xs, .int .i64 xa] 117)) (w.heap.size) 0 [.int .i64 xv, .string xs, .int .i64 xa] := RowAt.box w #[.int .i64 xv, .string xs, .int .i64 xa] 117
            have hw : Below w.heap.size w (w.alloc (.cells #[.int .i64 xv, .string xs, .int .i64 xa] 117)) := by go_grown
            generalize (w.alloc (.cells #[.int .i64 xv, .string xs, .int .i64 xa] 117)) = w0 at *
            obtain ⟨d_0, d_1, d_2⟩ := D.box3; have hsD := World.block_lt_of_cell? _ _ d_0; dsimp only at hsD
            go_wp2_with (go_at_call 37; ((with_reducible refine (cN _).mono ?_); rintro e w1 ⟨rfl, hb⟩; have hw := hw.trans (hb.mono hw.size); have D := D.below hb; obtain ⟨d_0, d_1, d_2⟩ := D.box3; have hsD := World.block_lt_of_cell? _ _ d_0; dsimp only at hsD; clear hb))
            go_returns
            exact ⟨rfl, hw⟩
      · obtain ⟨b2, b3⟩ := k12 b1
        clear k12
        cases a1 : (xa == 1)
        rotate_left
        obtain ⟨rfl, rfl⟩ := x1 a1
        rotate_left
        all_goals clear x1 x2 hq3 hq4
        cases q3 <;> cases q4
        all_goals
          go_enter Tryz.func101, Tryz.ntmps101
          go_upto_region 1 with fail
          have D : RowAt (w.alloc (.cells #[.int .i64 xv, .string xs, .int .i64 xa] 117)) (w.heap.size) 0 [.int .i64 xv, .string xs, .int .i64 xa] := RowAt.box w #[.int .i64 xv, .string xs, .int .i64 xa] 117
          have hw : Below w.heap.size w (w.alloc (.cells #[.int .i64 xv, .string xs, .int .i64 xa] 117)) := by go_grown
          generalize (w.alloc (.cells #[.int .i64 xv, .string xs, .int .i64 xa] 117)) = w0 at *
          obtain ⟨d_0, d_1, d_2⟩ := D.box3; have hsD := World.block_lt_of_cell? _ _ d_0; dsimp only at hsD
          go_wp2_with (go_at_call 37; ((with_reducible refine (cN _).mono ?_); rintro e w1 ⟨rfl, hb⟩; have hw := hw.trans (hb.mono hw.size); have D := D.below hb; obtain ⟨d_0, d_1, d_2⟩ := D.box3; have hsD := World.block_lt_of_cell? _ _ d_0; dsimp only at hsD; clear hb))
          go_returns
          exact ⟨rfl, hw⟩
  · cases q1 <;> cases q2 <;> cases e3 : (xa == 0)
    all_goals clear x1 x2 k12 e0 hq3 hq4
    all_goals
      go_enter Tryz.func101, Tryz.ntmps101
      go_upto_region 1 with fail
      have D : RowAt (w.alloc (.cells #[.int .i64 xv, .string xs, .int .i64 xa] 117)) (w.heap.size) 0 [.int .i64 xv, .string xs, .int .i64 xa] := RowAt.box w #[.int .i64 xv, .string xs, .int .i64 xa] 117
      have hw : Below w.heap.size w (w.alloc (.cells #[.int .i64 xv, .string xs, .int .i64 xa] 117)) := by go_grown
      generalize (w.alloc (.cells #[.int .i64 xv, .string xs, .int .i64 xa] 117)) = w0 at *
      obtain ⟨d_0, d_1, d_2⟩ := D.box3; have hsD := World.block_lt_of_cell? _ _ d_0; dsimp only at hsD
      go_wp2_with (go_at_call 37; ((with_reducible refine (cN _).mono ?_); rintro e w1 ⟨rfl, hb⟩; have hw := hw.trans (hb.mono hw.size); have D := D.below hb; obtain ⟨d_0, d_1, d_2⟩ := D.box3; have hsD := World.block_lt_of_cell? _ _ d_0; dsimp only at hsD; clear hb))
      go_returns
      exact ⟨rfl, hw⟩
end Go.Proofs.YtnmmfcnkpcigoaaGreat

/- TyOk of the reference. -/
namespace Go.Proofs.YtnmmfcnkpcigoaaGreat
open Go.RowKit
set_option linter.unusedVariables false
set_option linter.unusedSimpArgs false
attribute [local go_sem] Ext.cell

set_option maxRecDepth 100000 in
set_option maxHeartbeats 8000000 in
theorem l04End_c (x : GTy) (hl : x.items.length ≤ 1152921504606846976) (hok : x.items.all itemOk = true) : ∀ (f i : Nat) (r : List Value) (lo : Nat) (w : World), GTy.R lo w r x → x.items.length < i + f →
    Calls Tryz.prog 102 #[.agg r.toArray, .int .i64 i] w fun e w' => e = .returned (.int .i64 (tend x.items f i)) ∧ Below w.heap.size w w'
  | f, i, r, lo, w, hx, hf => by
    have ih : ∀ (f' i : Nat) (r : List Value) (lo : Nat) (w : World), f = f' + 1 → GTy.R lo w r x → x.items.length < i + f' →
      Calls Tryz.prog 102 #[.agg r.toArray, .int .i64 i] w fun e w' => e = .returned (.int .i64 (tend x.items f' i)) ∧ Below w.heap.size w w' := fun f' i r lo w h => l04End_c x hl hok f' i r lo w
    have Hx := hx
    obtain ⟨u0, rfl, -, a0⟩ := hx
    obtain ⟨a, c, rfl, ul, um, h0⟩ := a0
    obtain ⟨n, hn⟩ : ∃ n, n = x.items.length := ⟨_, rfl⟩
    rw [← hn] at ul hl ih hf Hx ⊢
    replace hn := Lib.hid hn
    have d0 : decide ((i : Int) < 0) = false := decide_eq_false (by omega)
    by_cases hlt : i < n
    · obtain ⟨f, rfl⟩ : ∃ f', f = f' + 1 := by
        cases f with
        | zero => exact absurd hf (by omega)
        | succ f => exact ⟨f, rfl⟩
      have d1 : decide ((n : Int) ≤ (i : Int)) = false := decide_eq_false (by omega)
      have d1' : decide (n ≤ i) = false := decide_eq_false (by omega)
      obtain ⟨b1, o1, y, s1, _, rfl, P1, ⟨rfl, hwf⟩, r1⟩ := h0.get hn.out hlt
      have hR : GTy.R lo w [.slice (some ⟨b1, o1, none⟩) n c] x := Hx
      have hao : itemOk y = true := List.all_eq_true.1 hok y (List.mem_of_getElem? P1.out)
      obtain ⟨ar0, ar2⟩ := itemOk_ar hao
      have hend : tend x.items (f + 1) i = tendN (tend x.items f) y.arity.toNat (i + 1) := by conv => lhs; unfold tend; rw [P1.out]
      have hrg := fun z (h : z ≤ n) (h2 : n < z + f) => tend_range x.items f z (by rw [← hn.out]; exact h2) (by rw [← hn.out]; exact h)
      rw [← hn.out] at hrg
      rw [hend]
      obtain ⟨e_0, e_1, e_2⟩ := r1.cells3
      have hb1 := World.block_lt_of_cell? _ _ e_0; dsimp only at hb1
      generalize y.arity = ar at *
      obtain ⟨m, rfl⟩ : ∃ m : Nat, ar = m := ⟨ar.toNat, by omega⟩
      rw [Int.toNat_natCast]
      replace ih := Lib.hid (fun i r lo w => ih f i r lo w rfl)
      generalize hres : tendN (tend x.items f) m (i + 1) = res
      have h00 : Hid (tendN (tend x.items f) (m - 0) ((i + 1 : Nat) : Int) = res) := hres
      replace hR := Lib.hid hR; replace hrg := Lib.hid hrg
      clear hres Hx hend P1 hao h0 hwf r1
      have hbw : ∀ W, Below w.heap.size w W → W.cell? ⟨b1, o1 + i * 3 + 2, none⟩ = some (.int .i64 (m : Int)) := fun W hW => cell_below hW e_2
      replace hbw := Lib.hid hbw
      go_enter Tryz.func102, Tryz.ntmps102
      go_upto_region 1 with fail
      have D : RowAt (w.alloc (.cells #[.slice (some ⟨b1, o1, none⟩) n c] 79)) (w.heap.size) 0 [.slice (some ⟨b1, o1, none⟩) n c] := RowAt.box w #[.slice (some ⟨b1, o1, none⟩) n c] 79
      have hw : Below w.heap.size w (w.alloc (.cells #[.slice (some ⟨b1, o1, none⟩) n c] 79)) := by go_grown
      generalize (w.alloc (.cells #[.slice (some ⟨b1, o1, none⟩) n c] 79)) = w0 at *
      clear e_0 e_1 e_2
      have e_2 := hbw.out _ hw
      have d_0 := D.box1; have hsD := World.block_lt_of_cell? _ _ d_0; dsimp only at hsD
      go_wp2_with fail
      go_loopw [5, 6] (fun nx ii wr => ∃ (j : Nat) (z : Int), j ≤ m ∧ (z = -1 ∨ ∃ z' : Nat, z = z' ∧ i < z' ∧ z' ≤ n) ∧ nx = .int .i64 z ∧ ii = .int .i64 j ∧ Hid (tendN (tend x.items f) (m - j) z = res) ∧ Below w.heap.size w wr ∧ RowAt wr w.heap.size 0 [.slice (some ⟨b1, o1, none⟩) n c]) (fun _ ii _ => m - (intOf ii).toNat)
      case atStart => exact ⟨0, ((i + 1 : Nat) : Int), by omega, .inr ⟨i + 1, rfl, by omega, by omega⟩, by go_num, rfl, h00, hw, D⟩
      case round =>
        clear e_2 D d_0 hsD hw h00
        obtain ⟨j, z, hj, hz, rfl, rfl, hK, hw, D⟩ := hrel
        have e_2 := hbw.out _ hw
        have hsz := hw.size
        have d_0 := D.box1; have hsD := World.block_lt_of_cell? _ _ d_0; dsimp only at hsD
        by_cases hjm : j < m
        · rcases hz with rfl | ⟨z, rfl, hz1, hz2⟩
          · have hres : (-1 : Int) = res := by rw [← hK.out]; exact (tendN_neg _ _ _ (by omega)).symm
            subst hres
            have d3 : decide ((j : Int) < (m : Int)) = true := decide_eq_true (by omega)
            clear hK
            go_wp2_with fail
            go_returns
            exact ⟨rfl, hw⟩
          · have hres : tendN (tend x.items f) (m - (j + 1)) (tend x.items f z) = res := by
              rw [← hK.out, show m - j = (m - (j + 1)) + 1 by omega]
              conv => rhs; unfold tendN
              rw [if_neg (by omega), Int.toNat_natCast]
            have d3 : decide ((j : Int) < (m : Int)) = true := decide_eq_true (by omega)
            have d4 : decide ((0 : Int) ≤ (z : Int)) = true := decide_eq_true (by omega)
            have c1 := ih.out z _ lo wr (GTy.good.below hR.out hw) (by omega)
            have hr2 := hrg.out z hz2 (by omega)
            generalize tend x.items f z = t at *
            replace hres := Lib.hid hres; replace c1 := Lib.hid c1; replace hr2 := Lib.hid hr2
            clear hK
            go_wp2_with (go_at_call 102; (with_reducible refine (c1.out).mono ?_); rintro e w2 ⟨rfl, hb⟩)
            have hw2 := hw.trans (hb.mono hsz)
            have D2 := D.below hb
            go_roundw
            case rel => exact ⟨j + 1, t, by omega, hr2.out.imp id (fun ⟨z', h1, h2, h3⟩ => ⟨z', h1, by omega, h3⟩), rfl, by go_num, hres, hw2, D2⟩
            case measure => simp [intOf]; omega
        · obtain rfl : j = m := by omega
          have hres : z = res := by rw [← hK.out, Nat.sub_self]; rfl
          subst hres
          clear hK hz
          go_wp2_with fail
          go_returns
          exact ⟨rfl, hw⟩
    · have d1 : decide ((n : Int) ≤ (i : Int)) = true := decide_eq_true (by omega)
      have d1' : decide (n ≤ i) = true := decide_eq_true (by omega)
      have hend : tend x.items f i = -1 := by
        cases f with
        | zero => rfl
        | succ f => unfold tend; rw [List.getElem?_eq_none (by rw [← hn.out]; omega)]
      rw [hend]
      clear hend h0 ih Hx
      go_enter Tryz.func102, Tryz.ntmps102
      go_wp2_with fail
      go_returns
      exact ⟨rfl, by go_grown⟩

set_option maxRecDepth 100000 in
set_option maxHeartbeats 8000000 in
theorem specTyOk_c (x : GTy) (hl : x.items.length ≤ 1152921504606846976) (r : List Value) (lo : Nat) (w : World) (hx : GTy.R lo w r x) :
    Calls Tryz.prog 70 #[.agg r.toArray] w fun e w' => e = .returned (.bool (tyOk x)) ∧ Below w.heap.size w w' := by
  have Hx := hx
  obtain ⟨u0, rfl, -, a0⟩ := hx
  obtain ⟨a, c, rfl, ul, um, h0⟩ := a0
  have cE := fun h W (hW : Below w.heap.size w W) => l04End_c x hl h (x.items.length + 1) 0 _ lo W (GTy.good.below Hx hW) (by omega)
  obtain ⟨n, hn⟩ : ∃ n, n = x.items.length := ⟨_, rfl⟩
  have hT : tyOk x = (decide ((n : Int) ≤ 200) && (x.items.all itemOk && decide (tend x.items (n + 1) 0 = n))) := by unfold tyOk; rw [tyGo_tend, hn]
  rw [← hn] at ul hl cE ⊢
  replace hn := Lib.hid hn; replace h0 := Lib.hid h0; replace cE := Lib.hid cE
  clear Hx
  by_cases h2 : 200 < n
  · have d1 : decide (200 < (n : Int)) = true := decide_eq_true (by omega)
    have d1' : decide (200 < n) = true := decide_eq_true h2
    rw [decide_eq_false (by omega), Bool.false_and] at hT
    rw [hT]
    clear hT
    go_enter Tryz.func70, Tryz.ntmps70
    go_wp2_with fail
    go_returns
    exact ⟨rfl, by go_grown⟩
  have d1 : decide (200 < (n : Int)) = false := decide_eq_false (by omega)
  have d1' : decide (200 < n) = false := decide_eq_false h2
  rw [decide_eq_true (by omega), Bool.true_and] at hT
  replace hT := Lib.hid hT
  go_enter Tryz.func70, Tryz.ntmps70
  go_upto_region 1 with fail
  have D : RowAt (w.alloc (.cells #[.slice a n c] 79)) (w.heap.size) 0 [.slice a n c] := RowAt.box w #[.slice a n c] 79
  have hw : Below w.heap.size w (w.alloc (.cells #[.slice a n c] 79)) := by go_grown
  generalize (w.alloc (.cells #[.slice a n c] 79)) = w0 at *
  have d_0 := D.box1; have hsD := World.block_lt_of_cell? _ _ d_0; dsimp only at hsD
  go_wp2_with fail
  go_loopw [12] (fun ii wr => ∃ k : Nat, k ≤ n ∧ ii = .int .i64 k ∧ Hid (∀ y ∈ x.items.take k, itemOk y = true) ∧ Below w.heap.size w wr ∧ RowAt wr w.heap.size 0 [.slice a n c]) (fun ii _ => n - (intOf ii).toNat)
  case atStart => exact ⟨0, by omega, rfl, fun y hy => by simp at hy, hw, D⟩
  case round =>
    clear D d_0 hsD hw
    obtain ⟨k, hk, rfl, hF, hw, D⟩ := hrel
    have hsz := hw.size
    have d_0 := D.box1; have hsD := World.block_lt_of_cell? _ _ d_0; dsimp only at hsD
    by_cases hlt : k < n
    · obtain ⟨b1, o1, y, s1, _, rfl, P1, ⟨rfl, hwf⟩, r1⟩ := (h0.out.below GTyItem.good hw).get hn.out hlt
      have cI := fun W => l04Item_c y hwf W
      have hno : itemOk y = false → tyOk x = false := fun h => by
        rw [hT.out, show (x.items.all itemOk) = false from List.all_eq_false.2 ⟨y, List.mem_of_getElem? P1.out, by rw [h]; decide⟩]; rfl
      have hyes : itemOk y = true → ∀ z ∈ x.items.take (k + 1), itemOk z = true := fun h z hz => by
        rw [take_snoc' P1.out] at hz
        rcases List.mem_append.1 hz with h' | h'
        · exact hF.out z h'
        · simp at h'; subst h'; exact h
      obtain ⟨e_0, e_1, e_2⟩ := r1.cells3
      have hb1 := World.block_lt_of_cell? _ _ e_0; dsimp only at hb1
      obtain ⟨xv, xs, xa⟩ := y
      dsimp only at *
      generalize itemOk ⟨xv, xs, xa⟩ = q at *
      clear r1 hwf P1 hF
      replace hno := Lib.hid hno; replace hyes := Lib.hid hyes
      go_upto_region 6 with fail
      have hb1' : Below wr.heap.size wr (wr.alloc (.cells #[.int .i64 xv, .string xs, .int .i64 xa] 117)) := by go_grown
      have E : RowAt (wr.alloc (.cells #[.int .i64 xv, .string xs, .int .i64 xa] 117)) wr.heap.size 0 [.int .i64 xv, .string xs, .int .i64 xa] := RowAt.box _ _ _
      have hw' := hw.trans (hb1'.mono hsz)
      have D' := D.below hb1'
      generalize wr.alloc (.cells #[.int .i64 xv, .string xs, .int .i64 xa] 117) = w0 at *
      clear hw hb1' e_0 e_1 e_2 D d_0
      have hw := hw'; clear hw'
      have D := D'; clear D'
      have d_0 := D.box1; have hsD := World.block_lt_of_cell? _ _ d_0; dsimp only at hsD; obtain ⟨e_0, e_1, e_2⟩ := E.box3; have hsE := World.block_lt_of_cell? _ _ e_0; dsimp only at hsE
      cases q
      · have hres := hno.out rfl
        clear hno hyes
        replace hres := Lib.hid hres
        go_wp2_with (go_at_call 101; ((with_reducible refine (cI _).mono ?_); rintro e w1 ⟨rfl, hb⟩; have hw := hw.trans (hb.mono hw.size); have D := D.below hb; have d_0 := D.box1; have hsD := World.block_lt_of_cell? _ _ d_0; dsimp only at hsD; have E := E.below hb; obtain ⟨e_0, e_1, e_2⟩ := E.box3; have hsE := World.block_lt_of_cell? _ _ e_0; dsimp only at hsE; clear hb))
        go_returns
        exact ⟨by rw [hres.out]; rfl, hw⟩
      · have hF := Lib.hid (hyes.out rfl)
        clear hno hyes
        go_wp2_with (go_at_call 101; ((with_reducible refine (cI _).mono ?_); rintro e w1 ⟨rfl, hb⟩; have hw := hw.trans (hb.mono hw.size); have D := D.below hb; have d_0 := D.box1; have hsD := World.block_lt_of_cell? _ _ d_0; dsimp only at hsD; have E := E.below hb; obtain ⟨e_0, e_1, e_2⟩ := E.box3; have hsE := World.block_lt_of_cell? _ _ e_0; dsimp only at hsE; clear hb))
        go_roundw
        case rel => exact ⟨k + 1, by omega, by go_num, hF, hw, D⟩
        case measure => simp [intOf]; omega
    · obtain rfl : k = n := by omega
      have hall : x.items.all itemOk = true := List.all_eq_true.2 fun y hy => hF.out y (by rw [List.take_of_length_le (by rw [← hn.out]; exact Nat.le_refl _)]; exact hy)
      have cE' := fun W (hW : Below wr.heap.size wr W) => cE.out hall W (hw.trans (hW.mono hsz))
      have hT := hT.out
      rw [hall, Bool.true_and] at hT
      generalize tend x.items (k + 1) 0 = t at *
      have ht : decide (t = (k : Int)) = (t == (k : Int)) := by cases h : (t == (k : Int)) <;> simp_all
      rw [ht] at hT
      generalize hq : (t == (k : Int)) = q at *
      replace cE' := Lib.hid cE'; replace hT := Lib.hid hT
      clear hF hall ht cE
      go_upto_region 9 with fail
      (refine wp_region_ext_lit (by kernel_rfl) (by kernel_rfl) ?_; (repeat (any_goals (first | go_big_quiet_step ((first | (go_at_call 102; exact Calls.ext (cE'.out _ (Subtype.property _))))) | quiet_step ((first | (go_at_call 102; exact Calls.ext (cE'.out _ (Subtype.property _))))) | (refine wpQuiet_step (fun K hK => ?_); go_simp; split <;> (refine hK _ ?_; clear hK K))))); all_goals (refine wpQuiet_nil ?_; rintro w1 ⟨⟨w2, hb⟩, rfl⟩; have hw := hw.trans (hb.mono hw.size); have D := D.below hb; have d_0 := D.box1; have hsD := World.block_lt_of_cell? _ _ d_0; dsimp only at hsD; clear hb))
      all_goals go_wp2_with fail
      all_goals go_returns
      all_goals exact ⟨by rw [hT.out]; rfl, hw⟩
end Go.Proofs.YtnmmfcnkpcigoaaGreat
