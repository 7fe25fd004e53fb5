/- Parts of the proof, merged: Keep1. -/
import Derived.Test.YtfobkbjabenkkaaGreatPe18
/- Keep: where a place stands among places; Targets of both. -/
namespace Go.Proofs.YtfobkbjabenkkaaGreat
open Go.RowKit
set_option linter.unusedVariables false
set_option linter.unusedSimpArgs false
attribute [local go_sem] Ext.cell

/-- How many of the places are less. -/
def cntLt (ps : List Int) (x : Int) : Nat := ps.countP fun p => decide (p < x)
theorem cntLt_take {ps : List Int} {x p : Int} {k : Nat} (h : ps[k]? = some p) : cntLt (ps.take (k + 1)) x = cntLt (ps.take k) x + (if p < x then 1 else 0) := by
  unfold cntLt
  rw [take_snoc' h, List.countP_append, List.countP_singleton]
  by_cases hp : p < x <;> simp [hp]
theorem cntLt_le (ps : List Int) (x : Int) : cntLt ps x ≤ ps.length := List.countP_le_length
/-- Strictly rising. -/
def Rising (ps : List Int) : Prop := ∀ (i j : Nat) p q, i < j → ps[i]? = some p → ps[j]? = some q → p < q
theorem cntLt_at {ps : List Int} {x : Int} {k : Nat} (h0 : ∀ (i : Nat) p, i < k → ps[i]? = some p → p < x) (h1 : ∀ (i : Nat) p, k ≤ i → ps[i]? = some p → x ≤ p) (hk : k ≤ ps.length) : cntLt ps x = k := by
  have e : ps = ps.take k ++ ps.drop k := (List.take_append_drop k ps).symm
  unfold cntLt
  rw [e, List.countP_append]
  have a : (ps.take k).countP (fun p => decide (p < x)) = (ps.take k).length := List.countP_eq_length.2 fun p hp => by
    obtain ⟨i, hi, rfl⟩ := List.getElem_of_mem hp
    rw [List.length_take] at hi
    rw [List.getElem_take]
    exact decide_eq_true (h0 i _ (by omega) (List.getElem?_eq_getElem (by omega)))
  have b : (ps.drop k).countP (fun p => decide (p < x)) = 0 := List.countP_eq_zero.2 fun p hp => by
    obtain ⟨i, hi, rfl⟩ := List.getElem_of_mem hp
    rw [List.length_drop] at hi
    rw [List.getElem_drop]
    have := h1 (k + i) _ (by omega) (List.getElem?_eq_getElem (by omega))
    simp; omega
  rw [a, b, List.length_take]; omega

set_option maxHeartbeats 1000000 in
theorem isNaNS_c (x : Int) (w : World) : Calls Tryz.prog 114 #[.int .i64 x] w fun e w' => e = .returned (.bool false) ∧ w = w' := by
  go_enter Tryz.func114, Tryz.ntmps114
  go_wp2_with fail
  go_returns
  first | exact ⟨rfl, rfl⟩ | (refine ⟨?_, rfl⟩; simp)
set_option maxHeartbeats 1000000 in
theorem isNaNC_c (x : Int) (w : World) : Calls Tryz.prog 128 #[.int .i64 x] w fun e w' => e = .returned (.bool false) ∧ w = w' := by
  go_enter Tryz.func128, Tryz.ntmps128
  go_wp2_with fail
  go_returns
  first | exact ⟨rfl, rfl⟩ | (refine ⟨?_, rfl⟩; simp)
set_option maxHeartbeats 1000000 in
theorem cmpLess_c (x y : Int) (w : World) : Calls Tryz.prog 113 #[.int .i64 x, .int .i64 y] w fun e w' => e = .returned (.bool (decide (x < y))) ∧ w = w' := by
  have c1 := fun z W => isNaNC_c z W
  go_enter Tryz.func113, Tryz.ntmps113
  go_wp2_with (go_at_call 128; ((with_reducible refine (c1 _ _).mono ?_); rintro e w1 ⟨rfl, rfl⟩))
  go_returns
  exact ⟨rfl, rfl⟩

set_option maxRecDepth 100000 in
set_option maxHeartbeats 4000000 in
theorem binarySearch_c (ps : List Int) (hR : Rising ps) (hN : ps.length ≤ 1048576) (x : Int) (u : Value) (lo : Nat) (w : World) (hu : Sl IntR 1 lo w u ps) :
    Calls Tryz.prog 99 #[u, .int .i64 x] w fun e w' => ∃ b, e = .returned (.tuple #[.int .i64 ((cntLt ps x : Nat) : Int), .bool b]) ∧ w = w' := by
  obtain ⟨ua, uc, rfl, ul, um, h0⟩ := hu
  obtain ⟨n, hn⟩ : ∃ n, n = ps.length := ⟨_, rfl⟩
  have hfin := fun k => cntLt_at (ps := ps) (x := x) (k := k)
  generalize cntLt ps x = R at *
  rw [← hn] at ul hN ⊢
  have cL := fun y W => cmpLess_c y x W
  have cN := fun y W => isNaNS_c y W
  replace hn := Lib.hid hn; replace h0 := Lib.hid h0; replace hR := Lib.hid hR; replace hfin := Lib.hid hfin
  go_enter Tryz.func99, Tryz.ntmps99
  go_wp2_with fail
  go_loopw [7, 8] (fun a b wr => ∃ i j : Nat, i ≤ j ∧ j ≤ n ∧ a = .int .i64 i ∧ b = .int .i64 j ∧ w = wr ∧ Hid (∀ (t : Nat) p, t < i → ps[t]? = some p → p < x) ∧ Hid (∀ (t : Nat) p, j ≤ t → ps[t]? = some p → x ≤ p)) (fun a b _ => (intOf b).toNat - (intOf a).toNat)
  case atStart => exact ⟨0, n, by omega, Nat.le_refl _, rfl, rfl, rfl, fun t p h => by omega, fun t p h hp => by rw [List.getElem?_eq_none (by rw [← hn.out]; exact h)] at hp; cases hp⟩
  case round =>
    obtain ⟨i, j, hij, hj, rfl, rfl, rfl, hA, hB⟩ := hrel
    by_cases hlt : i < j
    · have hh : ((i : Int) + j) / 2 ^ 1 = (((i + j) / 2 : Nat) : Int) := by omega
      obtain ⟨h, hh2⟩ : ∃ h, h = (i + j) / 2 := ⟨_, rfl⟩
      rw [← hh2] at hh
      have hi1 : i ≤ h := by omega
      have hj1 : h < j := by omega
      have hhn : h < n := by omega
      obtain ⟨b1, o1, p, s1, _, rfl, P1, ⟨rfl, _⟩, r1⟩ := h0.out.get hn hhn
      have r_0 : w.cell? ⟨b1, o1 + h, none⟩ = some (.int .i64 p) := by simpa using r1 0 _ rfl
      clear r1
      have hl : ((i : Int) + j) ≤ 2097152 := by omega
      have hl0 : 0 ≤ ((i : Int) + j) := by omega
      replace hh2 := Lib.hid hh2
      go_upto_region 5 with fail
      rw [show ((i : Int) + j) / 2 = (h : Int) from by simpa using hh]
      by_cases hpx : p < x
      · have cq := cL p w
        rw [decide_eq_true hpx] at cq
        have hA2 : ∀ (t : Nat) q, t < h + 1 → ps[t]? = some q → q < x := fun t q ht hq => by
          rcases Nat.lt_or_eq_of_le (Nat.le_of_lt_succ ht) with h1 | h1
          · have := hR.out t h q p h1 hq P1.out; omega
          · subst h1; rw [P1.out] at hq; cases hq; exact hpx
        replace hA2 := Lib.hid hA2
        clear cL hh hl hl0 hpx
        go_wp2_with (go_at_call 113; ((with_reducible refine (cq).mono ?_); rintro e w1 ⟨rfl, rfl⟩))
        go_roundw
        case rel => exact ⟨h + 1, j, by omega, hj, by go_num, rfl, by trivial, hA2, hB⟩
        case measure => simp [intOf]; omega
      · have cq := cL p w
        rw [decide_eq_false hpx] at cq
        have hB2 : ∀ (t : Nat) q, h ≤ t → ps[t]? = some q → x ≤ q := fun t q ht hq => by
          rcases Nat.lt_or_eq_of_le ht with h1 | h1
          · have := hR.out h t p q h1 P1.out hq; omega
          · subst h1; rw [P1.out] at hq; cases hq; omega
        replace hB2 := Lib.hid hB2
        clear cL hh hl hl0 hpx
        go_wp2_with (go_at_call 113; ((with_reducible refine (cq).mono ?_); rintro e w1 ⟨rfl, rfl⟩))
        go_roundw
        case rel => exact ⟨i, h, by omega, by omega, rfl, rfl, by trivial, hA, hB2⟩
        case measure => simp [intOf]; omega
    · obtain rfl : i = j := by omega
      have hres := hfin.out i hA.out hB.out (by rw [← hn.out]; exact hj)
      replace hres := Lib.hid hres
      by_cases hin : i < n
      · obtain ⟨b1, o1, p, s1, _, rfl, P1, ⟨rfl, _⟩, r1⟩ := h0.out.get hn hin
        have r_0 : w.cell? ⟨b1, o1 + i, none⟩ = some (.int .i64 p) := by simpa using r1 0 _ rfl
        clear r1 cL
        cases hpx : (p == x)
        · go_wp2_with (go_at_call 114; ((with_reducible refine (cN _ _).mono ?_); rintro e w1 ⟨rfl, rfl⟩))
          go_returns
          exact ⟨_, by rw [hres.out]; rfl, rfl⟩
        · go_wp2_with (go_at_call 114; ((with_reducible refine (cN _ _).mono ?_); rintro e w1 ⟨rfl, rfl⟩))
          go_returns
          exact ⟨_, by rw [hres.out]; rfl, rfl⟩
      · obtain rfl : i = n := by omega
        clear cL cN
        go_wp2_with fail
        go_returns
        exact ⟨_, by rw [hres.out]; rfl, rfl⟩

set_option maxHeartbeats 2000000 in
theorem l19New_c (ps : List Int) (x : Int) (hN : ps.length ≤ 1048576) (u : Value) (lo : Nat) (w : World) (hu : Sl IntR 1 lo w u ps) :
    Calls Tryz.prog 63 #[u, .int .i64 x] w fun e w' => e = .returned (.int .i64 ((cntLt ps x : Nat) : Int)) ∧ w = w' := by
  obtain ⟨ua, uc, rfl, ul, um, h0⟩ := hu
  obtain ⟨n, hn⟩ : ∃ n, n = ps.length := ⟨_, rfl⟩
  rw [← hn] at ul hN ⊢
  replace hn := Lib.hid hn; replace h0 := Lib.hid h0
  go_enter Tryz.func63, Tryz.ntmps63
  go_wp2_with fail
  go_loopw [5, 10] (fun a i wr => ∃ k c : Nat, k ≤ n ∧ c ≤ k ∧ i = .int .i64 k ∧ a = .int .i64 c ∧ w = wr ∧ Hid (cntLt (ps.take k) x = c)) (fun _ i _ => n - (intOf i).toNat)
  case atStart => exact ⟨0, 0, by omega, Nat.le_refl _, rfl, rfl, rfl, rfl⟩
  case round =>
    obtain ⟨k, c, hk, hc, rfl, rfl, rfl, hA⟩ := hrel
    by_cases hlt : k < n
    · obtain ⟨b1, o1, p, s1, _, rfl, P1, ⟨rfl, _⟩, r1⟩ := h0.out.get hn hlt
      have r_0 : w.cell? ⟨b1, o1 + k, none⟩ = some (.int .i64 p) := by simpa using r1 0 _ rfl
      have hst := cntLt_take (x := x) P1.out
      rw [hA.out] at hst
      clear r1
      cases hpx : decide (p < x)
      · rw [if_neg (by simpa using hpx)] at hst
        replace hst := Lib.hid hst
        go_wp2_with fail
        go_roundw
        case rel => exact ⟨k + 1, c, by omega, by omega, by go_num, rfl, by trivial, hst.out⟩
        case measure => simp [intOf]; omega
      · rw [if_pos (by simpa using hpx)] at hst
        replace hst := Lib.hid hst
        go_wp2_with fail
        go_roundw
        case rel => exact ⟨k + 1, c + 1, by omega, by omega, by go_num, by go_num, by trivial, hst.out⟩
        case measure => simp [intOf]; omega
    · obtain rfl : k = n := by omega
      have hres := hA.out
      rw [List.take_of_length_le (by rw [← hn.out]; exact Nat.le_refl _)] at hres
      replace hres := Lib.hid hres
      go_wp2_with fail
      go_returns
      exact ⟨by rw [hres.out]; rfl, rfl⟩

theorem sl_one (w : World) (a : Int) (ha : I64 a) (T : TypeId) (lo : Nat) (h : lo ≤ w.heap.size) : Sl IntR 1 lo (w.alloc (.cells #[.int .i64 a] T)) (.slice (some ⟨w.heap.size, 0, none⟩) 1 1) [a] :=
  ⟨_, 1, rfl, Nat.le_refl _, by decide, fun _ => ⟨w.heap.size, 0, h, rfl, fun i x hx => by
    have hi : i = 0 := by have := (List.getElem?_eq_some_iff.1 hx).1; simp at this; exact this
    subst hi
    obtain rfl : a = x := by simpa using hx
    exact ⟨_, ⟨rfl, ha⟩, RowAt.box w #[.int .i64 a] T⟩⟩⟩
/-- Where an instruction leads to. -/
def tgtP (x : GIns) : List Int := if leadsP x.op then [x.a] else if x.op = 20 then [x.b] else []
set_option maxHeartbeats 4000000 in
theorem Targets_c (x : GIns) (r : List Value) (lo : Nat) (w : World) (hr : GIns.R lo w r x) :
    Calls Tryz.prog 82 #[.agg r.toArray] w fun e w' => ∃ v, e = .returned v ∧ Sl IntR 1 w.heap.size w' v (tgtP x) ∧ Below w.heap.size w w' := by
  obtain ⟨op, a, b, s⟩ := x
  obtain ⟨rfl, ho, ha, hb, hs⟩ := hr
  dsimp only at *
  have cl := fun W => leads_c op W
  unfold tgtP
  dsimp only
  cases h1 : leadsP op
  · rw [h1] at cl
    rw [if_neg (by decide)]
    by_cases h2 : op = 20
    · rw [if_pos h2]
      subst h2
      go_enter Tryz.func82, Tryz.ntmps82
      go_wp2_with (go_at_call 74; ((with_reducible refine (cl _).mono ?_); rintro e w1 ⟨rfl, rfl⟩))
      go_returns
      refine ⟨_, rfl, ?_, by go_grown⟩
      have h := sl_one (w.alloc (.cells #[.int .i64 20, .int .i64 a, .int .i64 b, .string s] 57)) b hb 3 w.heap.size (by simp)
      simpa using h
    · rw [if_neg h2]
      have d2 : (op == 20) = false := by simpa using h2
      go_enter Tryz.func82, Tryz.ntmps82
      go_wp2_with (go_at_call 74; ((with_reducible refine (cl _).mono ?_); rintro e w1 ⟨rfl, rfl⟩))
      go_returns
      exact ⟨_, rfl, Sl.nil, by go_grown⟩
  · rw [h1] at cl
    rw [if_pos rfl]
    go_enter Tryz.func82, Tryz.ntmps82
    go_wp2_with (go_at_call 74; ((with_reducible refine (cl _).mono ?_); rintro e w1 ⟨rfl, rfl⟩))
    go_returns
    refine ⟨_, rfl, ?_, by go_grown⟩
    have h := sl_one (w.alloc (.cells #[.int .i64 op, .int .i64 a, .int .i64 b, .string s] 57)) a ha 3 w.heap.size (by simp)
    simpa using h

end Go.Proofs.YtfobkbjabenkkaaGreat
