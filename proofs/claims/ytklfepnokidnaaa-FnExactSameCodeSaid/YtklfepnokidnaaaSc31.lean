/- Parts of the proof, merged: EqFun, InsOk2. -/
import Derived.Deep.RegionLaw
import Derived.Test.YtklfepnokidnaaaSc30
/- slices.EqualFunc over []impl.Pat, with a closure that answers for each pair and may make memory. -/
namespace Go.Proofs.Ytklfepnokidnaaa
open Go.RowKit
set_option linter.unusedVariables false
set_option linter.unusedSimpArgs false
attribute [local go_sem] Ext.cell

/-- As long, and alike at each place. -/
def eqBy {α : Type} (p : α → α → Bool) (xs ys : List α) : Bool := decide (xs.length = ys.length) && (List.range xs.length).all fun i => match xs[i]?, ys[i]? with | some x, some y => p x y | _, _ => true
theorem eqBy_len {α : Type} {p : α → α → Bool} {xs ys : List α} (h : xs.length ≠ ys.length) : eqBy p xs ys = false := by unfold eqBy; rw [decide_eq_false h]; rfl
theorem eqBy_bad {α : Type} {p : α → α → Bool} {xs ys : List α} {k : Nat} {x y : α} (hx : xs[k]? = some x) (hy : ys[k]? = some y) (h : p x y = false) : eqBy p xs ys = false := by
  have : ((List.range xs.length).all fun i => match xs[i]?, ys[i]? with | some x, some y => p x y | _, _ => true) = false := by
    rw [List.all_eq_false]
    exact ⟨k, List.mem_range.2 (List.getElem?_eq_some_iff.1 hx).1, by simp only [hx, hy, h]; decide⟩
  unfold eqBy; rw [this]; simp
theorem eqBy_good {α : Type} {p : α → α → Bool} {xs ys : List α} (hl : xs.length = ys.length) (h : ∀ (k : Nat) (x y : α), xs[k]? = some x → ys[k]? = some y → p x y = true) : eqBy p xs ys = true := by
  unfold eqBy
  rw [decide_eq_true hl, Bool.true_and, List.all_eq_true]
  intro i hi
  have h1 := List.mem_range.1 hi
  rw [List.getElem?_eq_getElem h1, List.getElem?_eq_getElem (by omega)]
  exact h i _ _ (List.getElem?_eq_getElem h1) (List.getElem?_eq_getElem (by omega))

set_option maxRecDepth 100000 in
set_option maxHeartbeats 4000000 in
theorem equalFuncPat_c (xs ys : List GPat) (p : GPat → GPat → Bool) (g : Nat) (lb : Array Value) (lo : Nat) (u v : Value) (w : World) (hu : Sl GPat.R 1 lo w u xs) (hv : Sl GPat.R 1 lo w v ys)
    (hp : ∀ (i : Nat) x y r s W, xs[i]? = some x → ys[i]? = some y → Below w.heap.size w W → GPat.R lo W r x → GPat.R lo W s y → Calls Try.prog g (#[.agg r.toArray, .agg s.toArray] ++ lb) W fun e w' => e = .returned (.bool (p x y)) ∧ Below W.heap.size W w') (eg : ∀ args w, (callFunc g args).run Try.prog w = .ok (.enter g args) w) :
    Calls Try.prog 18 #[u, v, .func (.func g) #[] lb] w fun e w' => e = .returned (.bool (eqBy p xs ys)) ∧ Below w.heap.size w w' := by
  obtain ⟨ua, uc, rfl, ul, um, h0⟩ := hu
  obtain ⟨va, vc, rfl, vl, vm, h1⟩ := hv
  by_cases hl : xs.length = ys.length
  · obtain ⟨m, hm⟩ : ∃ m, m = xs.length := ⟨_, rfl⟩
    have hm' : m = ys.length := hm.trans hl
    have hbad := fun k x y => @eqBy_bad _ p xs ys k x y
    have hgood := @eqBy_good _ p xs ys hl
    generalize eqBy p xs ys = R at *
    rw [← hm] at ul
    rw [← hm'] at vl
    rw [← hm, ← hm']
    clear hl
    replace hp := Lib.hid hp; replace h0 := Lib.hid h0; replace h1 := Lib.hid h1; replace hm := Lib.hid hm; replace hm' := Lib.hid hm'; replace hbad := Lib.hid hbad; replace hgood := Lib.hid hgood
    go_enter Try.func18, Try.ntmps18
    go_wp2_with fail
    go_loopw [17] (fun i wr => ∃ k : Nat, k ≤ m ∧ i = .int .i64 k ∧ Below w.heap.size w wr ∧ Hid (∀ (j : Nat) (x y : GPat), j < k → xs[j]? = some x → ys[j]? = some y → p x y = true)) (fun i _ => m - (intOf i).toNat)
    case atStart => exact ⟨0, by omega, rfl, Below.refl _ _, fun j x y hj => by omega⟩
    case round =>
      obtain ⟨k, hk, rfl, hw, hF⟩ := hrel
      by_cases hlt : k < m
      · obtain ⟨b1, o1, x, r, _, hab, P1, hx, r1⟩ := (h0.out.below GPat.good hw).get hm hlt
        obtain ⟨b2, o2, y, s, _, hab2, P2, hy, r2⟩ := (h1.out.below GPat.good hw).get hm' hlt
        subst hab; subst hab2
        obtain ⟨u0, rfl, hxf⟩ := id hx
        obtain ⟨v0, rfl, hyf⟩ := id hy
        obtain ⟨ka, kc, rfl⟩ := hxf.2.form
        obtain ⟨la, lc, rfl⟩ := hyf.2.form
        have e_0 := r1.cells1
        have f_0 := r2.cells1
        rw [Nat.mul_one] at e_0 f_0
        have hs1 := World.block_lt_of_cell? _ _ e_0
        have hs2 := World.block_lt_of_cell? _ _ f_0
        dsimp only at hs1 hs2
        have hc := fun W (hW : Below wr.heap.size wr W) => hp.out k x y _ _ W P1.out P2.out (hw.trans (hW.mono hw.size)) (GPat.good.below hx hW) (GPat.good.below hy hW)
        have hbk := hbad.out k x y P1.out P2.out
        clear r1 r2 hx hy hxf hyf
        generalize x.nodes.length = nx at *
        generalize y.nodes.length = ny at *
        cases hq : p x y
        · rw [hq] at hc
          have hres := hbk hq
          replace hres := Lib.hid hres; replace hc := Lib.hid hc; replace hq := Lib.hid hq
          clear hbk
          go_wp2_with (go_at_fn g; refine (hc.out _ (by go_grown)).mono ?_; rintro e w1 ⟨rfl, hb⟩)
          go_returns
          exact ⟨by rw [hres.out]; rfl, hw.trans ((Below.trans (by go_grown) (hb.mono (by go_grown)) : Below wr.heap.size wr w1).mono hw.size)⟩
        · rw [hq] at hc
          replace hc := Lib.hid hc; replace hq := Lib.hid hq
          clear hbk
          go_wp2_with (go_at_fn g; refine (hc.out _ (by go_grown)).mono ?_; rintro e w1 ⟨rfl, hb⟩)
          go_roundw
          case rel => exact ⟨k + 1, by omega, by go_num, hw.trans ((Below.trans (by go_grown) (hb.mono (by go_grown)) : Below wr.heap.size wr w1).mono hw.size), fun j x' y' hj hx' hy' => by
            rcases Nat.lt_or_eq_of_le (Nat.le_of_lt_succ hj) with h | rfl
            · exact hF.out j x' y' h hx' hy'
            · rw [P1.out] at hx'; rw [P2.out] at hy'
              obtain rfl := Option.some.inj hx'; obtain rfl := Option.some.inj hy'; exact hq.out⟩
          case measure => simp [intOf]; omega
      · obtain rfl : k = m := by omega
        have hres := hgood.out fun j x y hx hy => hF.out j x y (by rw [hm.out]; exact (List.getElem?_eq_some_iff.1 hx).1) hx hy
        replace hres := Lib.hid hres
        go_wp2_with fail
        go_returns
        exact ⟨by rw [hres.out]; rfl, hw⟩
  · rw [eqBy_len hl]
    have d1 : ((xs.length : Int) == (ys.length : Int)) = false := by simp; omega
    have d2 : (xs.length == ys.length) = false := by simpa using hl
    generalize xs.length = n at *
    generalize ys.length = m at *
    clear h0 h1
    go_enter Try.func18, Try.ntmps18
    go_wp2_with fail
    go_returns
    exact ⟨rfl, Below.refl _ _⟩

end Go.Proofs.Ytklfepnokidnaaa

/- When an instruction is right: the program's walk. -/
namespace Go.Proofs.Ytklfepnokidnaaa
open Go.RowKit
set_option linter.unusedVariables false
set_option linter.unusedSimpArgs false
attribute [local go_sem] Ext.cell

set_option maxRecDepth 100000 in
set_option maxHeartbeats 8000000 in
theorem insOk_flat (op a b : Int) (s : ByteArray) (hs : StrOk s) (ha : I64 a) (hb : I64 b) (ho : I64 op) (ia pa : Option Addr) (n m ic pc : Nat) (hn : n ≤ 1152921504606846976) (hm : m ≤ 1152921504606846976) (w : World) :
    Calls Try.prog 39 #[.agg #[.slice ia n ic, .slice pa m pc], .agg #[.int .i64 op, .int .i64 a, .int .i64 b, .string s]] w fun e w' => e = .returned (.bool (insOkP n m ⟨op, a, b, s⟩)) ∧ Below w.heap.size w w' := by
  have hC := insOk_kind n m op a b s
  generalize insOkP n m ⟨op, a, b, s⟩ = q at hC ⊢
  have cl := fun W => leads_c op W
  have cw := fun x lo hi W => within_c x lo hi W
  have cg := fun W => given_c s hs W
  have cp := fun v W (hv : Sl StrR 1 0 W v primB) => containsS_c primB s 0 v W hv
  have cs := fun W => conShape_c s a true hs W
  have hpo : (primB.any fun y => s.toList == y.toList) = primOk s := rfl
  rw [hpo] at cp
  replace cp := Lib.hid cp
  rcases hC with ⟨hl, hq⟩ | ⟨hl, ⟨rfl, hq⟩ | ⟨h, hq⟩ | ⟨rfl, hq⟩ | ⟨rfl, hq⟩ | ⟨rfl, hq⟩ | ⟨rfl, hq⟩ | ⟨rfl, hq⟩ | ⟨h20, h6, h15, h1, h4, h2, h7, h16, hq⟩⟩
  · rw [hl] at cl
    subst hq
    clear cg cp cs hpo hl
    cases e1 : decide (0 ≤ a ∧ a ≤ (n : Int) - 1) <;> cases e2 : (b == 0) <;> cases e3 : s.toList.isEmpty
    all_goals
      have cw1 := fun W => cw a 0 ((n : Int) - 1) W
      rw [e1] at cw1
      clear e1 cw
      go_enter Try.func39, Try.ntmps39
      go_wp2_with (first | (go_at_call 42; ((with_reducible refine (cl _).mono ?_); rintro e w1 ⟨rfl, rfl⟩)) | (go_at_call 33; ((with_reducible refine (cw1 _).mono ?_); rintro e w1 ⟨rfl, rfl⟩)))
      go_returns
      exact ⟨by first | rfl | (simp; done) | (simp_all; done), by go_grown⟩
  · rw [hl] at cl
    subst hq
    clear cg cp cs hpo hl
    cases e1 : decide (0 ≤ a ∧ a ≤ (m : Int) - 1) <;> cases e2 : decide (0 ≤ b ∧ b ≤ (n : Int) - 1) <;> cases e3 : s.toList.isEmpty
    all_goals
      have cw1 := fun W => cw a 0 ((m : Int) - 1) W
      have cw2 := fun W => cw b 0 ((n : Int) - 1) W
      rw [e1] at cw1
      rw [e2] at cw2
      clear e1 e2 cw
      go_enter Try.func39, Try.ntmps39
      go_wp2_with (first | (go_at_call 42; ((with_reducible refine (cl _).mono ?_); rintro e w1 ⟨rfl, rfl⟩)) | (go_at_call 33; ((with_reducible refine (cw1 _).mono ?_); rintro e w1 ⟨rfl, rfl⟩)) | (go_at_call 33; ((with_reducible refine (cw2 _).mono ?_); rintro e w1 ⟨rfl, rfl⟩)))
      go_returns
      exact ⟨by first | rfl | (simp; done) | (simp_all; done), by go_grown⟩
  · rw [hl] at cl
    subst hq
    clear cg cp cs hpo hl
    rcases h with rfl | rfl <;> cases e1 : decide (0 ≤ a ∧ a ≤ 3000) <;> cases e2 : (b == 0) <;> cases e3 : s.toList.isEmpty
    all_goals
      have cw1 := fun W => cw a 0 3000 W
      rw [e1] at cw1
      clear e1 cw
      go_enter Try.func39, Try.ntmps39
      go_wp2_with (first | (go_at_call 42; ((with_reducible refine (cl _).mono ?_); rintro e w1 ⟨rfl, rfl⟩)) | (go_at_call 33; ((with_reducible refine (cw1 _).mono ?_); rintro e w1 ⟨rfl, rfl⟩)))
      go_returns
      exact ⟨by first | rfl | (simp; done) | (simp_all; done), by go_grown⟩
  · rw [hl] at cl
    subst hq
    clear cg cp cs hpo hl
    cases e1 : decide (-4611686018427387904 ≤ a ∧ a ≤ 4611686018427387903) <;> cases e2 : (b == 0) <;> cases e3 : s.toList.isEmpty
    all_goals
      have cw1 := fun W => cw a (-4611686018427387904) 4611686018427387903 W
      rw [e1] at cw1
      clear e1 cw
      go_enter Try.func39, Try.ntmps39
      go_wp2_with (first | (go_at_call 42; ((with_reducible refine (cl _).mono ?_); rintro e w1 ⟨rfl, rfl⟩)) | (go_at_call 33; ((with_reducible refine (cw1 _).mono ?_); rintro e w1 ⟨rfl, rfl⟩)))
      go_returns
      exact ⟨by first | rfl | (simp; done) | (simp_all; done), by go_grown⟩
  · rw [hl] at cl
    subst hq
    clear cg cp hpo hl
    generalize conShape s a true = g4 at *
    cases e1 : decide (0 ≤ a ∧ a ≤ 1) <;> cases e2 : (b == 0) <;> cases g4
    all_goals
      have cw1 := fun W => cw a 0 1 W
      rw [e1] at cw1
      clear e1 cw
      go_enter Try.func39, Try.ntmps39
      go_wp2_with (first | (go_at_call 42; ((with_reducible refine (cl _).mono ?_); rintro e w1 ⟨rfl, rfl⟩)) | (go_at_call 33; ((with_reducible refine (cw1 _).mono ?_); rintro e w1 ⟨rfl, rfl⟩)) | (go_at_call 66; ((with_reducible refine (cs _).mono ?_); rintro e w1 ⟨rfl, rfl⟩)))
      go_returns
      exact ⟨by first | rfl | (simp; done) | (simp_all; done), by go_grown⟩
  · rw [hl] at cl
    subst hq
    clear cg cp cs hpo hl
    cases e1 : (a == 0) <;> cases e2 : (b == 0)
    all_goals
      go_enter Try.func39, Try.ntmps39
      go_wp2_with (first | (go_at_call 42; ((with_reducible refine (cl _).mono ?_); rintro e w1 ⟨rfl, rfl⟩)))
      go_returns
      exact ⟨by first | rfl | (simp; done) | (simp_all; done), by go_grown⟩
  · rw [hl] at cl
    subst hq
    clear cp cs hpo hl
    generalize givenOk s = g7 at *
    cases e1 : (a == 0) <;> cases e2 : (b == 0) <;> cases g7
    all_goals
      go_enter Try.func39, Try.ntmps39
      go_wp2_with (first | (go_at_call 42; ((with_reducible refine (cl _).mono ?_); rintro e w1 ⟨rfl, rfl⟩)) | (go_at_call 67; ((with_reducible refine (cg _).mono ?_); rintro e w1 ⟨rfl, hb⟩; have hw : Below w.heap.size w w1 := Below.trans (by go_grown) (hb.mono (by go_grown)); obtain ⟨hc, hf⟩ := bcell hb; have hz := hw.size; have hz1 := hb.size; have hs0 : w.heap.size < w1.heap.size := (by have h := hz1; (try simp only [World.size_alloc, World.size_setCell, World.size_drew] at h); omega); have hs1 : w.heap.size + 1 < w1.heap.size := (by have h := hz1; (try simp only [World.size_alloc, World.size_setCell, World.size_drew] at h); omega); have hs2 : w.heap.size + 1 + 1 < w1.heap.size := (by have h := hz1; (try simp only [World.size_alloc, World.size_setCell, World.size_drew] at h); omega); clear hb)))
      go_returns
      exact ⟨by first | rfl | (simp; done) | (simp_all; done), by go_grown⟩
  · rw [hl] at cl
    subst hq
    clear cg cs hpo hl
    generalize primOk s = g16 at *
    cases e1 : (a == 0)
    · go_enter Try.func39, Try.ntmps39
      go_upto_region 1 with fail
      have C : RowAt (w.alloc (.cells #[.slice ia n ic, .slice pa m pc] 31)) (w.heap.size) 0 [.slice ia n ic, .slice pa m pc] := RowAt.box w #[.slice ia n ic, .slice pa m pc] 31
      have C := C.below (show Below (w.alloc (.cells #[.slice ia n ic, .slice pa m pc] 31)).heap.size (w.alloc (.cells #[.slice ia n ic, .slice pa m pc] 31)) ((w.alloc (.cells #[.slice ia n ic, .slice pa m pc] 31)).alloc (.cells #[.int .i64 16, .int .i64 a, .int .i64 b, .string s] 56)) by go_grown)
      have I : RowAt ((w.alloc (.cells #[.slice ia n ic, .slice pa m pc] 31)).alloc (.cells #[.int .i64 16, .int .i64 a, .int .i64 b, .string s] 56)) (w.heap.size + 1) 0 [.int .i64 16, .int .i64 a, .int .i64 b, .string s] := by have h := RowAt.box (w.alloc (.cells #[.slice ia n ic, .slice pa m pc] 31)) #[.int .i64 16, .int .i64 a, .int .i64 b, .string s] 56; simp only [World.size_alloc] at h; exact h
      have hw : Below w.heap.size w ((w.alloc (.cells #[.slice ia n ic, .slice pa m pc] 31)).alloc (.cells #[.int .i64 16, .int .i64 a, .int .i64 b, .string s] 56)) := by go_grown
      generalize ((w.alloc (.cells #[.slice ia n ic, .slice pa m pc] 31)).alloc (.cells #[.int .i64 16, .int .i64 a, .int .i64 b, .string s] 56)) = w0 at *
      obtain ⟨c_0, c_1⟩ := C.box2; have hsC := World.block_lt_of_cell? _ _ c_0; dsimp only at hsC; obtain ⟨i_0, i_1, i_2, i_3⟩ := I.box4; have hsI := World.block_lt_of_cell? _ _ i_0; dsimp only at hsI
      go_upto_region 2 with fail
      obtain ⟨w2, hW2⟩ : ∃ W, W = w0.alloc (.cells #[.int .i64 16, .int .i64 a, .int .i64 b, .string s] 56) := ⟨_, rfl⟩
      rw [← hW2]
      have hb2 : Below w0.heap.size w0 w2 := by rw [hW2]; go_grown
      have hw := hw.trans (hb2.mono hw.size)
      have C := C.below hb2
      have I := I.below hb2
      have J : RowAt w2 w0.heap.size 0 [.int .i64 16, .int .i64 a, .int .i64 b, .string s] := by rw [hW2]; exact RowAt.box w0 #[_, _, _, _] _
      clear hW2 hb2 c_0 c_1 i_0 i_1 i_2 i_3 hsC hsI
      obtain ⟨c_0, c_1⟩ := C.box2; have hsC := World.block_lt_of_cell? _ _ c_0; dsimp only at hsC; obtain ⟨i_0, i_1, i_2, i_3⟩ := I.box4; have hsI := World.block_lt_of_cell? _ _ i_0; dsimp only at hsI; obtain ⟨j_0, j_1, j_2, j_3⟩ := J.box4; have hsJ := World.block_lt_of_cell? _ _ j_0; dsimp only at hsJ
      go_upto_region 21 with (go_at_call 42; ((with_reducible refine (cl _).mono ?_); rintro e w1 ⟨rfl, rfl⟩))
      (refine wp_region_ext_lit (by kernel_rfl) (by kernel_rfl) ?_; (repeat (any_goals (first | go_big_quiet_step ((first | fail)) | quiet_step ((first | fail)) | (refine wpQuiet_step (fun K hK => ?_); go_simp; split <;> (refine hK _ ?_; clear hK K))))); all_goals (refine wpQuiet_nil ?_; rintro w1 ⟨⟨w2, hb⟩, rfl⟩; have hw := hw.trans (hb.mono hw.size); have C := C.below hb; obtain ⟨c_0, c_1⟩ := C.box2; have hsC := World.block_lt_of_cell? _ _ c_0; dsimp only at hsC; have I := I.below hb; obtain ⟨i_0, i_1, i_2, i_3⟩ := I.box4; have hsI := World.block_lt_of_cell? _ _ i_0; dsimp only at hsI; have J := J.below hb; obtain ⟨j_0, j_1, j_2, j_3⟩ := J.box4; have hsJ := World.block_lt_of_cell? _ _ j_0; dsimp only at hsJ; clear hb))
      all_goals go_wp2_with fail
      all_goals go_returns
      all_goals exact ⟨by first | rfl | (simp; done), hw⟩
    cases e2 : (b == 0)
    · go_enter Try.func39, Try.ntmps39
      go_upto_region 1 with fail
      have C : RowAt (w.alloc (.cells #[.slice ia n ic, .slice pa m pc] 31)) (w.heap.size) 0 [.slice ia n ic, .slice pa m pc] := RowAt.box w #[.slice ia n ic, .slice pa m pc] 31
      have C := C.below (show Below (w.alloc (.cells #[.slice ia n ic, .slice pa m pc] 31)).heap.size (w.alloc (.cells #[.slice ia n ic, .slice pa m pc] 31)) ((w.alloc (.cells #[.slice ia n ic, .slice pa m pc] 31)).alloc (.cells #[.int .i64 16, .int .i64 a, .int .i64 b, .string s] 56)) by go_grown)
      have I : RowAt ((w.alloc (.cells #[.slice ia n ic, .slice pa m pc] 31)).alloc (.cells #[.int .i64 16, .int .i64 a, .int .i64 b, .string s] 56)) (w.heap.size + 1) 0 [.int .i64 16, .int .i64 a, .int .i64 b, .string s] := by have h := RowAt.box (w.alloc (.cells #[.slice ia n ic, .slice pa m pc] 31)) #[.int .i64 16, .int .i64 a, .int .i64 b, .string s] 56; simp only [World.size_alloc] at h; exact h
      have hw : Below w.heap.size w ((w.alloc (.cells #[.slice ia n ic, .slice pa m pc] 31)).alloc (.cells #[.int .i64 16, .int .i64 a, .int .i64 b, .string s] 56)) := by go_grown
      generalize ((w.alloc (.cells #[.slice ia n ic, .slice pa m pc] 31)).alloc (.cells #[.int .i64 16, .int .i64 a, .int .i64 b, .string s] 56)) = w0 at *
      obtain ⟨c_0, c_1⟩ := C.box2; have hsC := World.block_lt_of_cell? _ _ c_0; dsimp only at hsC; obtain ⟨i_0, i_1, i_2, i_3⟩ := I.box4; have hsI := World.block_lt_of_cell? _ _ i_0; dsimp only at hsI
      go_upto_region 2 with fail
      obtain ⟨w2, hW2⟩ : ∃ W, W = w0.alloc (.cells #[.int .i64 16, .int .i64 a, .int .i64 b, .string s] 56) := ⟨_, rfl⟩
      rw [← hW2]
      have hb2 : Below w0.heap.size w0 w2 := by rw [hW2]; go_grown
      have hw := hw.trans (hb2.mono hw.size)
      have C := C.below hb2
      have I := I.below hb2
      have J : RowAt w2 w0.heap.size 0 [.int .i64 16, .int .i64 a, .int .i64 b, .string s] := by rw [hW2]; exact RowAt.box w0 #[_, _, _, _] _
      clear hW2 hb2 c_0 c_1 i_0 i_1 i_2 i_3 hsC hsI
      obtain ⟨c_0, c_1⟩ := C.box2; have hsC := World.block_lt_of_cell? _ _ c_0; dsimp only at hsC; obtain ⟨i_0, i_1, i_2, i_3⟩ := I.box4; have hsI := World.block_lt_of_cell? _ _ i_0; dsimp only at hsI; obtain ⟨j_0, j_1, j_2, j_3⟩ := J.box4; have hsJ := World.block_lt_of_cell? _ _ j_0; dsimp only at hsJ
      go_upto_region 21 with (go_at_call 42; ((with_reducible refine (cl _).mono ?_); rintro e w1 ⟨rfl, rfl⟩))
      (refine wp_region_ext_lit (by kernel_rfl) (by kernel_rfl) ?_; (repeat (any_goals (first | go_big_quiet_step ((first | fail)) | quiet_step ((first | fail)) | (refine wpQuiet_step (fun K hK => ?_); go_simp; split <;> (refine hK _ ?_; clear hK K))))); all_goals (refine wpQuiet_nil ?_; rintro w1 ⟨⟨w2, hb⟩, rfl⟩; have hw := hw.trans (hb.mono hw.size); have C := C.below hb; obtain ⟨c_0, c_1⟩ := C.box2; have hsC := World.block_lt_of_cell? _ _ c_0; dsimp only at hsC; have I := I.below hb; obtain ⟨i_0, i_1, i_2, i_3⟩ := I.box4; have hsI := World.block_lt_of_cell? _ _ i_0; dsimp only at hsI; have J := J.below hb; obtain ⟨j_0, j_1, j_2, j_3⟩ := J.box4; have hsJ := World.block_lt_of_cell? _ _ j_0; dsimp only at hsJ; clear hb))
      all_goals go_wp2_with fail
      all_goals go_returns
      all_goals exact ⟨by first | rfl | (simp; done), hw⟩
    cases g16
    all_goals
      go_enter Try.func39, Try.ntmps39
      go_upto_region 1 with fail
      have C : RowAt (w.alloc (.cells #[.slice ia n ic, .slice pa m pc] 31)) (w.heap.size) 0 [.slice ia n ic, .slice pa m pc] := RowAt.box w #[.slice ia n ic, .slice pa m pc] 31
      have C := C.below (show Below (w.alloc (.cells #[.slice ia n ic, .slice pa m pc] 31)).heap.size (w.alloc (.cells #[.slice ia n ic, .slice pa m pc] 31)) ((w.alloc (.cells #[.slice ia n ic, .slice pa m pc] 31)).alloc (.cells #[.int .i64 16, .int .i64 a, .int .i64 b, .string s] 56)) by go_grown)
      have I : RowAt ((w.alloc (.cells #[.slice ia n ic, .slice pa m pc] 31)).alloc (.cells #[.int .i64 16, .int .i64 a, .int .i64 b, .string s] 56)) (w.heap.size + 1) 0 [.int .i64 16, .int .i64 a, .int .i64 b, .string s] := by have h := RowAt.box (w.alloc (.cells #[.slice ia n ic, .slice pa m pc] 31)) #[.int .i64 16, .int .i64 a, .int .i64 b, .string s] 56; simp only [World.size_alloc] at h; exact h
      have hw : Below w.heap.size w ((w.alloc (.cells #[.slice ia n ic, .slice pa m pc] 31)).alloc (.cells #[.int .i64 16, .int .i64 a, .int .i64 b, .string s] 56)) := by go_grown
      generalize ((w.alloc (.cells #[.slice ia n ic, .slice pa m pc] 31)).alloc (.cells #[.int .i64 16, .int .i64 a, .int .i64 b, .string s] 56)) = w0 at *
      obtain ⟨c_0, c_1⟩ := C.box2; have hsC := World.block_lt_of_cell? _ _ c_0; dsimp only at hsC; obtain ⟨i_0, i_1, i_2, i_3⟩ := I.box4; have hsI := World.block_lt_of_cell? _ _ i_0; dsimp only at hsI
      go_upto_region 2 with fail
      obtain ⟨w2, hW2⟩ : ∃ W, W = w0.alloc (.cells #[.int .i64 16, .int .i64 a, .int .i64 b, .string s] 56) := ⟨_, rfl⟩
      rw [← hW2]
      have hb2 : Below w0.heap.size w0 w2 := by rw [hW2]; go_grown
      have hw := hw.trans (hb2.mono hw.size)
      have C := C.below hb2
      have I := I.below hb2
      have J : RowAt w2 w0.heap.size 0 [.int .i64 16, .int .i64 a, .int .i64 b, .string s] := by rw [hW2]; exact RowAt.box w0 #[_, _, _, _] _
      clear hW2 hb2 c_0 c_1 i_0 i_1 i_2 i_3 hsC hsI
      obtain ⟨c_0, c_1⟩ := C.box2; have hsC := World.block_lt_of_cell? _ _ c_0; dsimp only at hsC; obtain ⟨i_0, i_1, i_2, i_3⟩ := I.box4; have hsI := World.block_lt_of_cell? _ _ i_0; dsimp only at hsI; obtain ⟨j_0, j_1, j_2, j_3⟩ := J.box4; have hsJ := World.block_lt_of_cell? _ _ j_0; dsimp only at hsJ
      go_upto_region 21 with (go_at_call 42; ((with_reducible refine (cl _).mono ?_); rintro e w1 ⟨rfl, rfl⟩))
      go_region_law ((first | (go_simp; go_at_call 68; ((with_reducible refine (primOps_c _).mono ?_); rintro e w1 ⟨g, rfl, hS, hb⟩; have hw1 := hw.trans (Below.trans (by go_grown) (hb.mono (by go_grown)) : Below w.heap.size w2 w1); have i_3' : w1.cell? ⟨w.heap.size + 1, 3, none⟩ = some (.string s) := cell_below hb i_3)) | (go_simp; go_at_call 64; ((with_reducible refine (cp.out _ _ hS).mono ?_); rintro e w3 ⟨rfl, hb3⟩))))
      all_goals go_wp2_with fail
      all_goals go_returns
      all_goals exact ⟨rfl, hw1.trans (hb3.mono hw1.size)⟩
  · rw [hl] at cl
    subst hq
    clear cg cp cs hpo hl
    cases e1 : decide (1 ≤ op ∧ op ≤ 25) <;> cases e2 : (a == 0) <;> cases e3 : (b == 0) <;> cases e4 : s.toList.isEmpty
    all_goals
      have cw1 := fun W => cw op 1 25 W
      rw [e1] at cw1
      clear e1 cw
      go_enter Try.func39, Try.ntmps39
      go_wp2_with (first | (go_at_call 42; ((with_reducible refine (cl _).mono ?_); rintro e w1 ⟨rfl, rfl⟩)) | (go_at_call 33; ((with_reducible refine (cw1 _).mono ?_); rintro e w1 ⟨rfl, rfl⟩)))
      go_returns
      exact ⟨by first | rfl | (simp; done) | (simp_all; done), by go_grown⟩

end Go.Proofs.Ytklfepnokidnaaa
