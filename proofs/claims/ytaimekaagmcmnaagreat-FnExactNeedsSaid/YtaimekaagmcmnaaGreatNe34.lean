/- Parts of the proof, merged: TyOk3, TypeOk, TypeOk2. -/
import Derived.Test.YtaimekaagmcmnaaGreatNe33
/- TyOk of the reference. -/
namespace Go.Proofs.YtaimekaagmcmnaaGreat
open Go.RowKit
set_option linter.unusedVariables false
set_option linter.unusedSimpArgs false
attribute [local go_sem] Ext.cell

set_option maxRecDepth 100000 in
set_option maxHeartbeats 8000000 in
theorem l04End_c (x : GTy) (hl : x.items.length ≤ 1152921504606846976) (hok : x.items.all itemOk = true) : ∀ (f i : Nat) (r : List Value) (lo : Nat) (w : World), GTy.R lo w r x → x.items.length < i + f →
    Calls Tryz.prog 101 #[.agg r.toArray, .int .i64 i] w fun e w' => e = .returned (.int .i64 (tend x.items f i)) ∧ Below w.heap.size w w'
  | f, i, r, lo, w, hx, hf => by
    have ih : ∀ (f' i : Nat) (r : List Value) (lo : Nat) (w : World), f = f' + 1 → GTy.R lo w r x → x.items.length < i + f' →
      Calls Tryz.prog 101 #[.agg r.toArray, .int .i64 i] w fun e w' => e = .returned (.int .i64 (tend x.items f' i)) ∧ Below w.heap.size w w' := fun f' i r lo w h => l04End_c x hl hok f' i r lo w
    have Hx := hx
    obtain ⟨u0, rfl, -, a0⟩ := hx
    obtain ⟨a, c, rfl, ul, um, h0⟩ := a0
    obtain ⟨n, hn⟩ : ∃ n, n = x.items.length := ⟨_, rfl⟩
    rw [← hn] at ul hl ih hf Hx ⊢
    replace hn := Lib.hid hn
    have d0 : decide ((i : Int) < 0) = false := decide_eq_false (by omega)
    by_cases hlt : i < n
    · obtain ⟨f, rfl⟩ : ∃ f', f = f' + 1 := by
        cases f with
        | zero => exact absurd hf (by omega)
        | succ f => exact ⟨f, rfl⟩
      have d1 : decide ((n : Int) ≤ (i : Int)) = false := decide_eq_false (by omega)
      have d1' : decide (n ≤ i) = false := decide_eq_false (by omega)
      obtain ⟨b1, o1, y, s1, _, rfl, P1, ⟨rfl, hwf⟩, r1⟩ := h0.get hn.out hlt
      have hR : GTy.R lo w [.slice (some ⟨b1, o1, none⟩) n c] x := Hx
      have hao : itemOk y = true := List.all_eq_true.1 hok y (List.mem_of_getElem? P1.out)
      obtain ⟨ar0, ar2⟩ := itemOk_ar hao
      have hend : tend x.items (f + 1) i = tendN (tend x.items f) y.arity.toNat (i + 1) := by conv => lhs; unfold tend; rw [P1.out]
      have hrg := fun z (h : z ≤ n) (h2 : n < z + f) => tend_range x.items f z (by rw [← hn.out]; exact h2) (by rw [← hn.out]; exact h)
      rw [← hn.out] at hrg
      rw [hend]
      obtain ⟨e_0, e_1, e_2⟩ := r1.cells3
      have hb1 := World.block_lt_of_cell? _ _ e_0; dsimp only at hb1
      generalize y.arity = ar at *
      obtain ⟨m, rfl⟩ : ∃ m : Nat, ar = m := ⟨ar.toNat, by omega⟩
      rw [Int.toNat_natCast]
      replace ih := Lib.hid (fun i r lo w => ih f i r lo w rfl)
      generalize hres : tendN (tend x.items f) m (i + 1) = res
      have h00 : Hid (tendN (tend x.items f) (m - 0) ((i + 1 : Nat) : Int) = res) := hres
      replace hR := Lib.hid hR; replace hrg := Lib.hid hrg
      clear hres Hx hend P1 hao h0 hwf r1
      have hbw : ∀ W, Below w.heap.size w W → W.cell? ⟨b1, o1 + i * 3 + 2, none⟩ = some (.int .i64 (m : Int)) := fun W hW => cell_below hW e_2
      replace hbw := Lib.hid hbw
      go_enter Tryz.func101, Tryz.ntmps101
      go_upto_region 1 with fail
      have D : RowAt (w.alloc (.cells #[.slice (some ⟨b1, o1, none⟩) n c] 68)) (w.heap.size) 0 [.slice (some ⟨b1, o1, none⟩) n c] := RowAt.box w #[.slice (some ⟨b1, o1, none⟩) n c] 68
      have hw : Below w.heap.size w (w.alloc (.cells #[.slice (some ⟨b1, o1, none⟩) n c] 68)) := by go_grown
      generalize (w.alloc (.cells #[.slice (some ⟨b1, o1, none⟩) n c] 68)) = w0 at *
      clear e_0 e_1 e_2
      have e_2 := hbw.out _ hw
      have d_0 := D.box1; have hsD := World.block_lt_of_cell? _ _ d_0; dsimp only at hsD
      go_wp2_with fail
      go_loopw [5, 6] (fun nx ii wr => ∃ (j : Nat) (z : Int), j ≤ m ∧ (z = -1 ∨ ∃ z' : Nat, z = z' ∧ i < z' ∧ z' ≤ n) ∧ nx = .int .i64 z ∧ ii = .int .i64 j ∧ Hid (tendN (tend x.items f) (m - j) z = res) ∧ Below w.heap.size w wr ∧ RowAt wr w.heap.size 0 [.slice (some ⟨b1, o1, none⟩) n c]) (fun _ ii _ => m - (intOf ii).toNat)
      case atStart => exact ⟨0, ((i + 1 : Nat) : Int), by omega, .inr ⟨i + 1, rfl, by omega, by omega⟩, by go_num, rfl, h00, hw, D⟩
      case round =>
        clear e_2 D d_0 hsD hw h00
        obtain ⟨j, z, hj, hz, rfl, rfl, hK, hw, D⟩ := hrel
        have e_2 := hbw.out _ hw
        have hsz := hw.size
        have d_0 := D.box1; have hsD := World.block_lt_of_cell? _ _ d_0; dsimp only at hsD
        by_cases hjm : j < m
        · rcases hz with rfl | ⟨z, rfl, hz1, hz2⟩
          · have hres : (-1 : Int) = res := by rw [← hK.out]; exact (tendN_neg _ _ _ (by omega)).symm
            subst hres
            have d3 : decide ((j : Int) < (m : Int)) = true := decide_eq_true (by omega)
            clear hK
            go_wp2_with fail
            go_returns
            exact ⟨rfl, hw⟩
          · have hres : tendN (tend x.items f) (m - (j + 1)) (tend x.items f z) = res := by
              rw [← hK.out, show m - j = (m - (j + 1)) + 1 by omega]
              conv => rhs; unfold tendN
              rw [if_neg (by omega), Int.toNat_natCast]
            have d3 : decide ((j : Int) < (m : Int)) = true := decide_eq_true (by omega)
            have d4 : decide ((0 : Int) ≤ (z : Int)) = true := decide_eq_true (by omega)
            have c1 := ih.out z _ lo wr (GTy.good.below hR.out hw) (by omega)
            have hr2 := hrg.out z hz2 (by omega)
            generalize tend x.items f z = t at *
            replace hres := Lib.hid hres; replace c1 := Lib.hid c1; replace hr2 := Lib.hid hr2
            clear hK
            go_wp2_with (go_at_call 101; (with_reducible refine (c1.out).mono ?_); rintro e w2 ⟨rfl, hb⟩)
            have hw2 := hw.trans (hb.mono hsz)
            have D2 := D.below hb
            go_roundw
            case rel => exact ⟨j + 1, t, by omega, hr2.out.imp id (fun ⟨z', h1, h2, h3⟩ => ⟨z', h1, by omega, h3⟩), rfl, by go_num, hres, hw2, D2⟩
            case measure => simp [intOf]; omega
        · obtain rfl : j = m := by omega
          have hres : z = res := by rw [← hK.out, Nat.sub_self]; rfl
          subst hres
          clear hK hz
          go_wp2_with fail
          go_returns
          exact ⟨rfl, hw⟩
    · have d1 : decide ((n : Int) ≤ (i : Int)) = true := decide_eq_true (by omega)
      have d1' : decide (n ≤ i) = true := decide_eq_true (by omega)
      have hend : tend x.items f i = -1 := by
        cases f with
        | zero => rfl
        | succ f => unfold tend; rw [List.getElem?_eq_none (by rw [← hn.out]; omega)]
      rw [hend]
      clear hend h0 ih Hx
      go_enter Tryz.func101, Tryz.ntmps101
      go_wp2_with fail
      go_returns
      exact ⟨rfl, by go_grown⟩

set_option maxRecDepth 100000 in
set_option maxHeartbeats 8000000 in
theorem specTyOk_c (x : GTy) (hl : x.items.length ≤ 1152921504606846976) (r : List Value) (lo : Nat) (w : World) (hx : GTy.R lo w r x) :
    Calls Tryz.prog 67 #[.agg r.toArray] w fun e w' => e = .returned (.bool (tyOk x)) ∧ Below w.heap.size w w' := by
  have Hx := hx
  obtain ⟨u0, rfl, -, a0⟩ := hx
  obtain ⟨a, c, rfl, ul, um, h0⟩ := a0
  have cE := fun h W (hW : Below w.heap.size w W) => l04End_c x hl h (x.items.length + 1) 0 _ lo W (GTy.good.below Hx hW) (by omega)
  obtain ⟨n, hn⟩ : ∃ n, n = x.items.length := ⟨_, rfl⟩
  have hT : tyOk x = (decide ((n : Int) ≤ 200) && (x.items.all itemOk && decide (tend x.items (n + 1) 0 = n))) := by unfold tyOk; rw [tyGo_tend, hn]
  rw [← hn] at ul hl cE ⊢
  replace hn := Lib.hid hn; replace h0 := Lib.hid h0; replace cE := Lib.hid cE
  clear Hx
  by_cases h2 : 200 < n
  · have d1 : decide (200 < (n : Int)) = true := decide_eq_true (by omega)
    have d1' : decide (200 < n) = true := decide_eq_true h2
    rw [decide_eq_false (by omega), Bool.false_and] at hT
    rw [hT]
    clear hT
    go_enter Tryz.func67, Tryz.ntmps67
    go_wp2_with fail
    go_returns
    exact ⟨rfl, by go_grown⟩
  have d1 : decide (200 < (n : Int)) = false := decide_eq_false (by omega)
  have d1' : decide (200 < n) = false := decide_eq_false h2
  rw [decide_eq_true (by omega), Bool.true_and] at hT
  replace hT := Lib.hid hT
  go_enter Tryz.func67, Tryz.ntmps67
  go_upto_region 1 with fail
  have D : RowAt (w.alloc (.cells #[.slice a n c] 68)) (w.heap.size) 0 [.slice a n c] := RowAt.box w #[.slice a n c] 68
  have hw : Below w.heap.size w (w.alloc (.cells #[.slice a n c] 68)) := by go_grown
  generalize (w.alloc (.cells #[.slice a n c] 68)) = w0 at *
  have d_0 := D.box1; have hsD := World.block_lt_of_cell? _ _ d_0; dsimp only at hsD
  go_wp2_with fail
  go_loopw [12] (fun ii wr => ∃ k : Nat, k ≤ n ∧ ii = .int .i64 k ∧ Hid (∀ y ∈ x.items.take k, itemOk y = true) ∧ Below w.heap.size w wr ∧ RowAt wr w.heap.size 0 [.slice a n c]) (fun ii _ => n - (intOf ii).toNat)
  case atStart => exact ⟨0, by omega, rfl, fun y hy => by simp at hy, hw, D⟩
  case round =>
    clear D d_0 hsD hw
    obtain ⟨k, hk, rfl, hF, hw, D⟩ := hrel
    have hsz := hw.size
    have d_0 := D.box1; have hsD := World.block_lt_of_cell? _ _ d_0; dsimp only at hsD
    by_cases hlt : k < n
    · obtain ⟨b1, o1, y, s1, _, rfl, P1, ⟨rfl, hwf⟩, r1⟩ := (h0.out.below GTyItem.good hw).get hn.out hlt
      have cI := fun W => l04Item_c y hwf W
      have hno : itemOk y = false → tyOk x = false := fun h => by
        rw [hT.out, show (x.items.all itemOk) = false from List.all_eq_false.2 ⟨y, List.mem_of_getElem? P1.out, by rw [h]; decide⟩]; rfl
      have hyes : itemOk y = true → ∀ z ∈ x.items.take (k + 1), itemOk z = true := fun h z hz => by
        rw [take_snoc' P1.out] at hz
        rcases List.mem_append.1 hz with h' | h'
        · exact hF.out z h'
        · simp at h'; subst h'; exact h
      obtain ⟨e_0, e_1, e_2⟩ := r1.cells3
      have hb1 := World.block_lt_of_cell? _ _ e_0; dsimp only at hb1
      obtain ⟨xv, xs, xa⟩ := y
      dsimp only at *
      generalize itemOk ⟨xv, xs, xa⟩ = q at *
      clear r1 hwf P1 hF
      replace hno := Lib.hid hno; replace hyes := Lib.hid hyes
      go_upto_region 6 with fail
      have hb1' : Below wr.heap.size wr (wr.alloc (.cells #[.int .i64 xv, .string xs, .int .i64 xa] 106)) := by go_grown
      have E : RowAt (wr.alloc (.cells #[.int .i64 xv, .string xs, .int .i64 xa] 106)) wr.heap.size 0 [.int .i64 xv, .string xs, .int .i64 xa] := RowAt.box _ _ _
      have hw' := hw.trans (hb1'.mono hsz)
      have D' := D.below hb1'
      generalize wr.alloc (.cells #[.int .i64 xv, .string xs, .int .i64 xa] 106) = w0 at *
      clear hw hb1' e_0 e_1 e_2 D d_0
      have hw := hw'; clear hw'
      have D := D'; clear D'
      have d_0 := D.box1; have hsD := World.block_lt_of_cell? _ _ d_0; dsimp only at hsD; obtain ⟨e_0, e_1, e_2⟩ := E.box3; have hsE := World.block_lt_of_cell? _ _ e_0; dsimp only at hsE
      cases q
      · have hres := hno.out rfl
        clear hno hyes
        replace hres := Lib.hid hres
        go_wp2_with (go_at_call 100; ((with_reducible refine (cI _).mono ?_); rintro e w1 ⟨rfl, hb⟩; have hw := hw.trans (hb.mono hw.size); have D := D.below hb; have d_0 := D.box1; have hsD := World.block_lt_of_cell? _ _ d_0; dsimp only at hsD; have E := E.below hb; obtain ⟨e_0, e_1, e_2⟩ := E.box3; have hsE := World.block_lt_of_cell? _ _ e_0; dsimp only at hsE; clear hb))
        go_returns
        exact ⟨by rw [hres.out]; rfl, hw⟩
      · have hF := Lib.hid (hyes.out rfl)
        clear hno hyes
        go_wp2_with (go_at_call 100; ((with_reducible refine (cI _).mono ?_); rintro e w1 ⟨rfl, hb⟩; have hw := hw.trans (hb.mono hw.size); have D := D.below hb; have d_0 := D.box1; have hsD := World.block_lt_of_cell? _ _ d_0; dsimp only at hsD; have E := E.below hb; obtain ⟨e_0, e_1, e_2⟩ := E.box3; have hsE := World.block_lt_of_cell? _ _ e_0; dsimp only at hsE; clear hb))
        go_roundw
        case rel => exact ⟨k + 1, by omega, by go_num, hF, hw, D⟩
        case measure => simp [intOf]; omega
    · obtain rfl : k = n := by omega
      have hall : x.items.all itemOk = true := List.all_eq_true.2 fun y hy => hF.out y (by rw [List.take_of_length_le (by rw [← hn.out]; exact Nat.le_refl _)]; exact hy)
      have cE' := fun W (hW : Below wr.heap.size wr W) => cE.out hall W (hw.trans (hW.mono hsz))
      have hT := hT.out
      rw [hall, Bool.true_and] at hT
      generalize tend x.items (k + 1) 0 = t at *
      have ht : decide (t = (k : Int)) = (t == (k : Int)) := by cases h : (t == (k : Int)) <;> simp_all
      rw [ht] at hT
      generalize hq : (t == (k : Int)) = q at *
      replace cE' := Lib.hid cE'; replace hT := Lib.hid hT
      clear hF hall ht cE
      go_upto_region 9 with fail
      (refine wp_region_ext_lit (by kernel_rfl) (by kernel_rfl) ?_; (repeat (any_goals (first | go_big_quiet_step ((first | (go_at_call 101; exact Calls.ext (cE'.out _ (Subtype.property _))))) | quiet_step ((first | (go_at_call 101; exact Calls.ext (cE'.out _ (Subtype.property _))))) | (refine wpQuiet_step (fun K hK => ?_); go_simp; split <;> (refine hK _ ?_; clear hK K))))); all_goals (refine wpQuiet_nil ?_; rintro w1 ⟨⟨w2, hb⟩, rfl⟩; have hw := hw.trans (hb.mono hw.size); have D := D.below hb; have d_0 := D.box1; have hsD := World.block_lt_of_cell? _ _ d_0; dsimp only at hsD; clear hb))
      all_goals go_wp2_with fail
      all_goals go_returns
      all_goals exact ⟨by rw [hT.out]; rfl, hw⟩
end Go.Proofs.YtaimekaagmcmnaaGreat

/- Type declarations: the program's test. -/
namespace Go.Proofs.YtaimekaagmcmnaaGreat
open Go.RowKit
set_option linter.unusedVariables false
set_option linter.unusedSimpArgs false
attribute [local go_sem] Ext.cell

def varIn (p : Int) (x : GTyItem) : Bool := !(x.name.toList.isEmpty && decide (p ≤ x.var))
def conHas (c : GCon) : Bool := if c.has then tyOk c.arg else c.arg.items.length == 0
def conDecl (p : Int) (c : GCon) : Bool := conOk c.name && (conHas c && c.arg.items.all (varIn p))
def typeOk (t : GType) : Bool := nameOk t.name && (decide (0 ≤ t.params ∧ t.params ≤ 2) && (decide (1 ≤ (t.cons.length : Int) ∧ (t.cons.length : Int) ≤ 8) && t.cons.all (conDecl t.params)))
def typeSm (t : GType) : Prop := t.cons.length ≤ 1152921504606846976 ∧ ∀ c ∈ t.cons, c.arg.items.length ≤ 1152921504606846976
theorem all_bad {α : Type} {l : List α} {f : α → Bool} {k : Nat} {x : α} (h : l[k]? = some x) (hf : f x = false) : l.all f = false :=
  List.all_eq_false.2 ⟨x, List.mem_of_getElem? h, by rw [hf]; decide⟩
theorem all_stepL {α : Type} {l : List α} {f : α → Bool} {k : Nat} {x : α} (h : ∀ y ∈ l.take k, f y = true) (hx : l[k]? = some x) (hf : f x = true) : ∀ y ∈ l.take (k + 1), f y = true := by
  rw [take_snoc' hx]
  intro z hz
  rcases List.mem_append.1 hz with h' | h'
  · exact h z h'
  · simp at h'; subst h'; exact hf
theorem all_full {α : Type} {l : List α} {f : α → Bool} {k : Nat} (h : ∀ y ∈ l.take k, f y = true) (hk : k = l.length) : l.all f = true :=
  List.all_eq_true.2 fun y hy => h y (by rw [List.take_of_length_le (by omega)]; exact hy)

set_option maxRecDepth 100000 in
set_option maxHeartbeats 16000000 in
theorem typeOk_c (t : GType) (hl : typeSm t) (r : List Value) (lo : Nat) (w : World) (hr : GType.R lo w r t) :
    Calls Tryz.prog 81 #[.agg r.toArray] w fun e w' => e = .returned (.bool (typeOk t)) ∧ Below w.heap.size w w' := by
  obtain ⟨nm, pp, cs⟩ := t
  obtain ⟨u0, rfl, hwf, a0⟩ := hr
  obtain ⟨hl1, hl2⟩ := hl
  obtain ⟨a, c, rfl, ul, um, h0⟩ := a0
  dsimp only at *
  have hT : typeOk ⟨nm, pp, cs⟩ = (nameOk nm && (decide (0 ≤ pp ∧ pp ≤ 2) && (decide (1 ≤ (cs.length : Int) ∧ (cs.length : Int) ≤ 8) && cs.all (conDecl pp)))) := rfl
  generalize typeOk ⟨nm, pp, cs⟩ = res at *
  have cN := fun W => impl_NameOk_c nm hwf.1 W
  have W1 := fun W => within_c pp 0 2 W
  have W2 := fun W => within_c cs.length 1 8 W
  obtain ⟨n, hn⟩ : ∃ n, n = cs.length := ⟨_, rfl⟩
  rw [← hn] at ul hl1 hT W2 ⊢
  replace hn := Lib.hid hn; replace h0 := Lib.hid h0; replace hl2 := Lib.hid hl2
  show Calls Tryz.prog 81 #[.agg #[.string nm, .int .i64 pp, .slice a n c]] w _
  generalize hq1 : nameOk nm = q1 at *
  generalize hq2 : decide (0 ≤ pp ∧ pp ≤ 2) = q2 at *
  generalize hq3 : decide (1 ≤ (n : Int) ∧ (n : Int) ≤ 8) = q3 at *
  clear hq1 hq2 hwf
  by_cases hbad : (q1 && (q2 && q3)) = false
  · have hres : res = false := by rw [hT]; cases q1 <;> cases q2 <;> cases q3 <;> first | rfl | (exact absurd hbad (by decide))
    subst hres
    clear hT hq3 h0
    cases q1 <;> cases q2 <;> cases q3
    all_goals first
      | (exact absurd hbad (by decide))
      | (clear hbad
         go_enter Tryz.func81, Tryz.ntmps81
         go_upto_region 1 with fail
         have D : RowAt (w.alloc (.cells #[.string nm, .int .i64 pp, .slice a n c] 65)) (w.heap.size) 0 [.string nm, .int .i64 pp, .slice a n c] := RowAt.box w #[.string nm, .int .i64 pp, .slice a n c] 65
         have hw : Below w.heap.size w (w.alloc (.cells #[.string nm, .int .i64 pp, .slice a n c] 65)) := by go_grown
         generalize (w.alloc (.cells #[.string nm, .int .i64 pp, .slice a n c] 65)) = w0 at *
         obtain ⟨d_0, d_1, d_2⟩ := D.box3; have hsD := World.block_lt_of_cell? _ _ d_0; dsimp only at hsD
         go_wp2_with (first | (go_at_call 45; ((with_reducible refine (cN _).mono ?_); rintro e w1 ⟨rfl, hb⟩; have hw := hw.trans (hb.mono hw.size); have D := D.below hb; obtain ⟨d_0, d_1, d_2⟩ := D.box3; have hsD := World.block_lt_of_cell? _ _ d_0; dsimp only at hsD; clear hb)) | (go_at_call 75; ((with_reducible refine (W1 _).mono ?_); rintro e w1 ⟨rfl, rfl⟩)) | (go_at_call 75; ((with_reducible refine (W2 _).mono ?_); rintro e w1 ⟨rfl, rfl⟩)))
         go_returns
         exact ⟨rfl, hw⟩)
  have hq : q1 = true ∧ q2 = true ∧ q3 = true := by cases q1 <;> cases q2 <;> cases q3 <;> first | exact ⟨rfl, rfl, rfl⟩ | exact absurd rfl hbad
  clear hbad
  obtain ⟨rfl, rfl, rfl⟩ := hq
  simp only [Bool.true_and] at hT
  replace hT := Lib.hid hT
  have hn18 := of_decide_eq_true hq3
  clear hq3
  go_enter Tryz.func81, Tryz.ntmps81
  go_upto_region 1 with fail
  have D : RowAt (w.alloc (.cells #[.string nm, .int .i64 pp, .slice a n c] 65)) (w.heap.size) 0 [.string nm, .int .i64 pp, .slice a n c] := RowAt.box w #[.string nm, .int .i64 pp, .slice a n c] 65
  have hw : Below w.heap.size w (w.alloc (.cells #[.string nm, .int .i64 pp, .slice a n c] 65)) := by go_grown
  generalize (w.alloc (.cells #[.string nm, .int .i64 pp, .slice a n c] 65)) = w0 at *
  obtain ⟨d_0, d_1, d_2⟩ := D.box3; have hsD := World.block_lt_of_cell? _ _ d_0; dsimp only at hsD
  go_wp2_with (first | (go_at_call 45; ((with_reducible refine (cN _).mono ?_); rintro e w1 ⟨rfl, hb⟩; have hw := hw.trans (hb.mono hw.size); have D := D.below hb; obtain ⟨d_0, d_1, d_2⟩ := D.box3; have hsD := World.block_lt_of_cell? _ _ d_0; dsimp only at hsD; clear hb)) | (go_at_call 75; ((with_reducible refine (W1 _).mono ?_); rintro e w1 ⟨rfl, rfl⟩)) | (go_at_call 75; ((with_reducible refine (W2 _).mono ?_); rintro e w1 ⟨rfl, rfl⟩)))
  go_loopw [27] (fun ii wr => ∃ k : Nat, k ≤ n ∧ ii = .int .i64 k ∧ Hid (∀ y ∈ cs.take k, conDecl pp y = true) ∧ Below w.heap.size w wr ∧ RowAt wr w.heap.size 0 [.string nm, .int .i64 pp, .slice a n c]) (fun ii _ => n - (intOf ii).toNat)
  case atStart => exact ⟨0, by omega, rfl, fun y hy => by simp at hy, hw, D⟩
  case round =>
    clear D d_0 d_1 d_2 hsD hw
    obtain ⟨k, hk, rfl, hF, hw, D⟩ := hrel
    have hsz := hw.size
    obtain ⟨d_0, d_1, d_2⟩ := D.box3; have hsD := World.block_lt_of_cell? _ _ d_0; dsimp only at hsD
    by_cases hlt : k < n
    · obtain ⟨b1, o1, x, s1, _, rfl, P1, hx, r1⟩ := (h0.out.below GCon.good hw).get hn.out hlt
      have hsm := hl2.out x (List.mem_of_getElem? P1.out)
      have P1' := P1.out
      obtain ⟨cn, hb, ⟨its⟩⟩ := x
      obtain ⟨v0, rfl, hwf, a1⟩ := hx
      have H1 := a1
      obtain ⟨ia, ic, rfl, il, im, j0⟩ := a1
      dsimp only at *
      have hbadc : conDecl pp ⟨cn, hb, ⟨its⟩⟩ = false → res = false := fun h => by rw [hT.out]; exact all_bad P1' h
      have hgood := fun h => all_stepL (f := conDecl pp) hF.out P1' h
      have hC : conDecl pp ⟨cn, hb, ⟨its⟩⟩ = (conOk cn && ((if hb then tyOk ⟨its⟩ else its.length == 0) && its.all (varIn pp))) := rfl
      obtain ⟨m, hm⟩ : ∃ m, m = its.length := ⟨_, rfl⟩
      rw [← hm] at il hC r1 H1
      have cC := fun W => ConOk_c cn hwf W
      have cT := fun W lo' h => TyOk_c ⟨its⟩ hsm [.slice ia m ic] lo' W h
      generalize conDecl pp ⟨cn, hb, ⟨its⟩⟩ = cd at *
      generalize hq1 : conOk cn = q1 at *
      generalize hq2 : tyOk ⟨its⟩ = q2 at *
      obtain ⟨e_0, e_1, e_2⟩ := r1.cells3
      have hbb1 := World.block_lt_of_cell? _ _ e_0; dsimp only at hbb1
      have hsm' : m ≤ 1152921504606846976 := by rw [hm]; exact hsm
      clear P1 P1' hF r1 hq1 hq2 hsm
      replace hbadc := Lib.hid hbadc; replace hgood := Lib.hid hgood; replace hm := Lib.hid hm; replace H1 := Lib.hid H1; replace j0 := Lib.hid j0; replace cT := Lib.hid cT
      go_upto_region 6 with fail
      have hb1' : Below wr.heap.size wr (wr.alloc (.cells #[.string cn, .bool hb, .slice ia m ic] 70)) := by go_grown
      have E : RowAt (wr.alloc (.cells #[.string cn, .bool hb, .slice ia m ic] 70)) wr.heap.size 0 [.string cn, .bool hb, .slice ia m ic] := RowAt.box _ _ _
      have hw' := hw.trans (hb1'.mono hsz)
      have D' := D.below hb1'
      have j0' := j0.out.below GTyItem.good hb1'
      have H1' : GTy.R lo (wr.alloc (.cells #[.string cn, .bool hb, .slice ia m ic] 70)) [.slice ia m ic] ⟨its⟩ := ⟨_, rfl, trivial, H1.out.below GTyItem.good hb1'⟩
      generalize hbE : wr.heap.size = bE at *
      generalize wr.alloc (.cells #[.string cn, .bool hb, .slice ia m ic] 70) = w0 at *
      clear hw hb1' e_0 e_1 e_2 D d_0 d_1 d_2 H1 j0 hbE
      have hw := hw'; clear hw'
      have D := D'; clear D'
      replace j0' := Lib.hid j0'; replace H1' := Lib.hid H1'
      have hw0 := hw
      have hw00 := Below.refl w0.heap.size w0
      obtain ⟨d_0, d_1, d_2⟩ := D.box3; have hsD := World.block_lt_of_cell? _ _ d_0; dsimp only at hsD; obtain ⟨e_0, e_1, e_2⟩ := E.box3; have hsE := World.block_lt_of_cell? _ _ e_0; dsimp only at hsE
      have cT0 := cT.out w0 lo H1'.out
      clear cT
      replace cT0 := Lib.hid cT0
      generalize hem : ((m : Int) == 0) = em
      have hdm : decide (0 < (m : Int)) = !em := by cases em <;> simp_all <;> omega
      have hdm' : decide (0 < m) = !em := by rw [← hdm, decide_eq_decide]; omega
      have heml : (m == 0) = em := by rw [← hem, Bool.eq_iff_iff]; simp
      rw [heml] at hC
      by_cases hcd : (q1 && (if hb then q2 else em)) = false
      · have hc0 : cd = false := by rw [hC, ← Bool.and_assoc, hcd]; rfl
        have hres := hbadc.out hc0
        subst hres
        clear hC hc0 hbadc hgood hem heml
        cases q1 <;> cases hb <;> cases q2 <;> cases em
        all_goals first
          | (exact absurd hcd (by decide))
          | (clear hcd
             go_wp2_with (first | (go_at_call 111; ((with_reducible refine (cC _).mono ?_); rintro e w1 ⟨rfl, rfl⟩)) | (go_at_call 112; ((with_reducible refine (cT0.out).mono ?_); rintro e w1 ⟨rfl, hb⟩; have hw := hw.trans (hb.mono hw.size); have D := D.below hb; obtain ⟨d_0, d_1, d_2⟩ := D.box3; have hsD := World.block_lt_of_cell? _ _ d_0; dsimp only at hsD; have E := E.below hb; obtain ⟨e_0, e_1, e_2⟩ := E.box3; have hsE := World.block_lt_of_cell? _ _ e_0; dsimp only at hsE; clear hb)))
             go_returns
             exact ⟨rfl, hw⟩)
      · have hq : q1 = true ∧ (if hb then q2 else em) = true := by
          cases h1 : q1 <;> cases h2 : (if hb then q2 else em) <;> rw [h1, h2] at hcd <;> first | exact ⟨rfl, rfl⟩ | exact absurd rfl hcd
        obtain ⟨rfl, hq2⟩ := hq
        rw [hq2] at hC
        simp only [Bool.true_and] at hC
        replace hC := Lib.hid hC
        clear hcd hem heml
        have hway : (hb = true ∧ q2 = true) ∨ (hb = false ∧ em = true) := by
          cases hb
          · exact .inr ⟨rfl, hq2⟩
          · exact .inl ⟨rfl, hq2⟩
        clear hq2
        have hbi : ∀ W, Below w0.heap.size w0 W → SlAt GTyItem.R 3 lo W ia its := fun W hW => j0'.out.below GTyItem.good hW
        replace hbi := Lib.hid hbi
        rcases hway with ⟨rfl, rfl⟩ | ⟨rfl, rfl⟩
        all_goals
          go_wp2_with (first | (go_at_call 111; ((with_reducible refine (cC _).mono ?_); rintro e w1 ⟨rfl, rfl⟩)) | (go_at_call 112; (with_reducible refine (cT0.out).mono ?_); rintro e w1 ⟨rfl, hb⟩; have hw00 := hw00.trans (hb.mono hw00.size); have hw := hw.trans (hb.mono hw.size); have D := D.below hb; obtain ⟨d_0, d_1, d_2⟩ := D.box3; have hsD := World.block_lt_of_cell? _ _ d_0; dsimp only at hsD; have E := E.below hb; obtain ⟨e_0, e_1, e_2⟩ := E.box3; have hsE := World.block_lt_of_cell? _ _ e_0; dsimp only at hsE; clear hb))
          go_loopw [61] (fun ii wr => ∃ j : Nat, j ≤ m ∧ ii = .int .i64 j ∧ Hid (∀ y ∈ its.take j, varIn pp y = true) ∧ Below w.heap.size w wr ∧ Below w0.heap.size w0 wr ∧ RowAt wr w.heap.size 0 [.string nm, .int .i64 pp, .slice (some ⟨b1, o1, none⟩) n c]) (fun ii _ => m - (intOf ii).toNat)
          case atStart => exact ⟨0, by omega, rfl, fun y hy => by simp at hy, hw, hw00, D⟩
          case round =>
            clear D d_0 d_1 d_2 hsD hw hw00 E e_0 e_1 e_2 hsE
            obtain ⟨j, hj, rfl, hF, hw, hw00, D⟩ := hrel
            have hsz' := hw.size
            have hsz0 := hw00.size
            obtain ⟨d_0, d_1, d_2⟩ := D.box3; have hsD := World.block_lt_of_cell? _ _ d_0; dsimp only at hsD
            by_cases hjm : j < m
            · obtain ⟨b2, o2, y, s2, _, rfl, P2, ⟨rfl, hwy⟩, r2⟩ := (hbi.out _ hw00).get hm.out hjm
              have P2' := P2.out
              have hbadv : varIn pp y = false → res = false := fun h => hbadc.out (by rw [hC.out]; exact all_bad P2' h)
              have hgoodv := fun h => all_stepL (f := varIn pp) hF.out P2' h
              obtain ⟨f_0, f_1, f_2⟩ := r2.cells3
              have hbb2 := World.block_lt_of_cell? _ _ f_0; dsimp only at hbb2
              obtain ⟨xv, xs, xa⟩ := y
              have hV : varIn pp ⟨xv, xs, xa⟩ = !(xs.toList.isEmpty && decide (pp ≤ xv)) := rfl
              dsimp only at *
              generalize varIn pp ⟨xv, xs, xa⟩ = q at *
              clear r2 P2 P2' hF hwy
              replace hbadv := Lib.hid hbadv; replace hgoodv := Lib.hid hgoodv
              cases e1 : xs.toList.isEmpty
              · rw [e1] at hV
                replace hV : q = true := hV
                subst hV
                have hF := Lib.hid (hgoodv.out rfl)
                clear hbadv hgoodv
                go_wp2_with fail
                go_roundw
                case rel => exact ⟨j + 1, by omega, by go_num, hF, hw.trans (Below.mono (by go_grown) hsz'), hw00.trans (Below.mono (by go_grown) hsz0), D.below (by go_grown)⟩
                case measure => simp [intOf]; omega
              · cases e2 : decide (pp ≤ xv)
                · rw [e1, e2] at hV
                  replace hV : q = true := hV
                  subst hV
                  have hF := Lib.hid (hgoodv.out rfl)
                  clear hbadv hgoodv
                  go_wp2_with fail
                  go_roundw
                  case rel => exact ⟨j + 1, by omega, by go_num, hF, hw.trans (Below.mono (by go_grown) hsz'), hw00.trans (Below.mono (by go_grown) hsz0), D.below (by go_grown)⟩
                  case measure => simp [intOf]; omega
                · rw [e1, e2] at hV
                  replace hV : q = false := hV
                  subst hV
                  have hres := hbadv.out rfl
                  subst hres
                  clear hbadv hgoodv
                  go_wp2_with fail
                  go_returns
                  exact ⟨rfl, hw.trans (Below.mono (by go_grown) hsz')⟩
            · obtain rfl : j = m := by omega
              have hc1 := hC.out
              rw [all_full hF.out hm.out] at hc1
              have hF := Lib.hid (hgood.out hc1)
              clear hC hc1
              go_wp2_with fail
              go_roundw
              case rel => exact ⟨k + 1, by omega, by go_num, hF, hw, D⟩
              case measure => simp [intOf]; omega
    · obtain rfl : k = n := by omega
      have hres : res = true := by rw [hT.out]; exact all_full hF.out hn.out
      subst hres
      clear hF
      go_wp2_with fail
      go_returns
      exact ⟨rfl, hw⟩
end Go.Proofs.YtaimekaagmcmnaaGreat

/- Type declarations: the reference's test of a constructor. -/
namespace Go.Proofs.YtaimekaagmcmnaaGreat
open Go.RowKit
set_option linter.unusedVariables false
set_option linter.unusedSimpArgs false
attribute [local go_sem] Ext.cell

set_option maxRecDepth 100000 in
set_option maxHeartbeats 16000000 in
theorem l04Con_c (c : GCon) (hl : c.arg.items.length ≤ 1152921504606846976) (pp : Int) (r : List Value) (lo : Nat) (w : World) (hr : GCon.R lo w r c) :
    Calls Tryz.prog 35 #[.agg r.toArray, .int .i64 pp] w fun e w' => e = .returned (.bool (conDecl pp c)) ∧ Below w.heap.size w w' := by
  obtain ⟨cn, hb, ⟨its⟩⟩ := c
  obtain ⟨v0, rfl, hwf, a1⟩ := hr
  have H1 := a1
  obtain ⟨ia, ic, rfl, il, im, j0⟩ := a1
  dsimp only at *
  obtain ⟨m, hm⟩ : ∃ m, m = its.length := ⟨_, rfl⟩
  have hC : conDecl pp ⟨cn, hb, ⟨its⟩⟩ = (conOk cn && ((if hb then tyOk ⟨its⟩ else its.length == 0) && its.all (varIn pp))) := rfl
  have cC := fun W => specConOk_c cn hwf W
  have cT := fun W (h : GTy.R lo W [.slice ia m ic] ⟨its⟩) => specTyOk_c ⟨its⟩ hl [.slice ia m ic] lo W h
  rw [← hm] at il hC H1 hl ⊢
  generalize conDecl pp ⟨cn, hb, ⟨its⟩⟩ = res at *
  generalize conOk cn = q1 at *
  generalize hq2 : tyOk ⟨its⟩ = q2 at *
  have H1' : ∀ W, Below w.heap.size w W → GTy.R lo W [.slice ia m ic] ⟨its⟩ := fun W hW => ⟨_, rfl, trivial, H1.below GTyItem.good hW⟩
  have j0' : ∀ W, Below w.heap.size w W → SlAt GTyItem.R 3 lo W ia its := fun W hW => j0.below GTyItem.good hW
  have hnil : m = 0 → its.all (varIn pp) = true := fun h => by rw [List.length_eq_zero_iff.1 (hm.symm.trans h)]; rfl
  clear H1 hq2 hwf j0
  replace hm := Lib.hid hm; replace H1' := Lib.hid H1'; replace j0' := Lib.hid j0'; replace cT := Lib.hid cT
  show Calls Tryz.prog 35 #[.agg #[.string cn, .bool hb, .slice ia m ic], .int .i64 pp] w _
  cases q1
  · have hres : res = false := by rw [hC]; rfl
    subst hres
    clear hC hnil
    go_enter Tryz.func35, Tryz.ntmps35
    go_upto_region 1 with fail
    have D : RowAt (w.alloc (.cells #[.string cn, .bool hb, .slice ia m ic] 70)) (w.heap.size) 0 [.string cn, .bool hb, .slice ia m ic] := RowAt.box w #[.string cn, .bool hb, .slice ia m ic] 70
    have hw : Below w.heap.size w (w.alloc (.cells #[.string cn, .bool hb, .slice ia m ic] 70)) := by go_grown
    generalize (w.alloc (.cells #[.string cn, .bool hb, .slice ia m ic] 70)) = w0 at *
    obtain ⟨d_0, d_1, d_2⟩ := D.box3; have hsD := World.block_lt_of_cell? _ _ d_0; dsimp only at hsD
    go_wp2_with ((go_at_call 66; ((with_reducible refine (cC _).mono ?_); rintro e w1 ⟨rfl, rfl⟩)))
    go_returns
    exact ⟨rfl, hw⟩
  rw [Bool.true_and] at hC
  cases hb
  · generalize hem : ((m : Int) == 0) = em
    have heml : (m == 0) = em := by rw [← hem, Bool.eq_iff_iff]; simp
    have hres : res = em := by
      rw [hC]
      show ((m == 0) && _) = em
      rw [heml]
      cases em
      · rfl
      · rw [hnil (by simpa using heml)]; rfl
    subst hres
    clear hC hnil heml
    go_enter Tryz.func35, Tryz.ntmps35
    go_upto_region 1 with fail
    have D : RowAt (w.alloc (.cells #[.string cn, .bool false, .slice ia m ic] 70)) (w.heap.size) 0 [.string cn, .bool false, .slice ia m ic] := RowAt.box w #[.string cn, .bool false, .slice ia m ic] 70
    have hw : Below w.heap.size w (w.alloc (.cells #[.string cn, .bool false, .slice ia m ic] 70)) := by go_grown
    generalize (w.alloc (.cells #[.string cn, .bool false, .slice ia m ic] 70)) = w0 at *
    obtain ⟨d_0, d_1, d_2⟩ := D.box3; have hsD := World.block_lt_of_cell? _ _ d_0; dsimp only at hsD
    go_wp2_with ((go_at_call 66; ((with_reducible refine (cC _).mono ?_); rintro e w1 ⟨rfl, rfl⟩)))
    go_returns
    exact ⟨rfl, hw⟩
  replace hC : res = (q2 && its.all (varIn pp)) := hC
  replace hC := Lib.hid hC
  clear hnil
  go_enter Tryz.func35, Tryz.ntmps35
  go_upto_region 1 with fail
  have D : RowAt (w.alloc (.cells #[.string cn, .bool true, .slice ia m ic] 70)) (w.heap.size) 0 [.string cn, .bool true, .slice ia m ic] := RowAt.box w #[.string cn, .bool true, .slice ia m ic] 70
  have hw : Below w.heap.size w (w.alloc (.cells #[.string cn, .bool true, .slice ia m ic] 70)) := by go_grown
  generalize (w.alloc (.cells #[.string cn, .bool true, .slice ia m ic] 70)) = w0 at *
  obtain ⟨d_0, d_1, d_2⟩ := D.box3; have hsD := World.block_lt_of_cell? _ _ d_0; dsimp only at hsD
  go_wp2_with ((go_at_call 66; ((with_reducible refine (cC _).mono ?_); rintro e w1 ⟨rfl, rfl⟩)))
  go_loopw [23] (fun ii wr => ∃ j : Nat, j ≤ m ∧ ii = .int .i64 j ∧ Hid (∀ y ∈ its.take j, varIn pp y = true) ∧ Below w.heap.size w wr ∧ RowAt wr w.heap.size 0 [.string cn, .bool true, .slice ia m ic]) (fun ii _ => m - (intOf ii).toNat)
  case atStart => exact ⟨0, by omega, rfl, fun y hy => by simp at hy, hw, D⟩
  case round =>
    clear D d_0 d_1 d_2 hsD hw
    obtain ⟨j, hj, rfl, hF, hw, D⟩ := hrel
    have hsz := hw.size
    obtain ⟨d_0, d_1, d_2⟩ := D.box3; have hsD := World.block_lt_of_cell? _ _ d_0; dsimp only at hsD
    by_cases hjm : j < m
    · obtain ⟨b2, o2, y, s2, _, rfl, P2, ⟨rfl, hwy⟩, r2⟩ := (j0'.out _ hw).get hm.out hjm
      have P2' := P2.out
      have hbadv : varIn pp y = false → res = false := fun h => by rw [hC.out, all_bad P2' h, Bool.and_false]
      have hgoodv := fun h => all_stepL (f := varIn pp) hF.out P2' h
      obtain ⟨f_0, f_1, f_2⟩ := r2.cells3
      have hbb2 := World.block_lt_of_cell? _ _ f_0; dsimp only at hbb2
      obtain ⟨xv, xs, xa⟩ := y
      have hV : varIn pp ⟨xv, xs, xa⟩ = !(xs.toList.isEmpty && decide (pp ≤ xv)) := rfl
      dsimp only at *
      generalize varIn pp ⟨xv, xs, xa⟩ = q at *
      clear r2 P2 P2' hF hwy
      replace hbadv := Lib.hid hbadv; replace hgoodv := Lib.hid hgoodv
      cases e1 : xs.toList.isEmpty
      · rw [e1] at hV
        replace hV : q = true := hV
        subst hV
        have hF := Lib.hid (hgoodv.out rfl)
        clear hbadv hgoodv
        go_wp2_with fail
        go_roundw
        case rel => exact ⟨j + 1, by omega, by go_num, hF, hw.trans (Below.mono (by go_grown) hsz), D.below (by go_grown)⟩
        case measure => simp [intOf]; omega
      · cases e2 : decide (pp ≤ xv)
        · rw [e1, e2] at hV
          replace hV : q = true := hV
          subst hV
          have hF := Lib.hid (hgoodv.out rfl)
          clear hbadv hgoodv
          go_wp2_with fail
          go_roundw
          case rel => exact ⟨j + 1, by omega, by go_num, hF, hw.trans (Below.mono (by go_grown) hsz), D.below (by go_grown)⟩
          case measure => simp [intOf]; omega
        · rw [e1, e2] at hV
          replace hV : q = false := hV
          subst hV
          have hres := hbadv.out rfl
          subst hres
          clear hbadv hgoodv hC
          go_wp2_with fail
          go_returns
          exact ⟨rfl, hw.trans (Below.mono (by go_grown) hsz)⟩
    · obtain rfl : j = m := by omega
      have hc1 := hC.out
      rw [all_full hF.out hm.out, Bool.and_true] at hc1
      subst hc1
      have cT' := cT.out _ (H1'.out _ hw)
      replace cT' := Lib.hid cT'
      clear hC hF
      go_wp2_with (go_at_call 67; ((with_reducible refine (cT'.out).mono ?_); rintro e w1 ⟨rfl, hb⟩; have hw := hw.trans (hb.mono hw.size); have D := D.below hb; obtain ⟨d_0, d_1, d_2⟩ := D.box3; have hsD := World.block_lt_of_cell? _ _ d_0; dsimp only at hsD; clear hb))
      go_returns
      exact ⟨rfl, hw⟩
end Go.Proofs.YtaimekaagmcmnaaGreat
