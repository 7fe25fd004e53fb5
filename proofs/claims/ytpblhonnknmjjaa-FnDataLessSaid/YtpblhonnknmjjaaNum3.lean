/- The text of a number: the reference's digits; NumText of both. -/
import Derived.Test.YtpblhonnknmjjaaNum2
import Derived.Deep.RegionLaw
import Derived.IntWalk
namespace Go.Proofs.Ytpblhonnknmjjaa
open Go.RowKit
set_option linter.unusedVariables false
set_option linter.unusedSimpArgs false
attribute [local go_sem] Ext.cell

theorem conv1 (W : World) (g k : Nat) (x : Int) (hx : x = 48 + (k : Int) % 10) (h : W.cell? ⟨g, 0, none⟩ = some (.int .u8 x)) : (convert 22 9 (Value.slice (some ⟨g, 0, none⟩) 1 1)).run Try.prog W = .ok (.string ⟨#[dig k]⟩) W := by
  refine run_convert_bytes_back (P := Try.prog) _ 22 9 5 ⟨g, 0, none⟩ 1 [dig k] Try.underlying22 Try.underlying5 Try.underlying9 (fun j hj => ?_)
  obtain rfl : j = 0 := by simp at hj; exact hj
  have e : (dig k).toNat = 48 + k % 10 := dig_toNat k
  show W.cell? ⟨g, 0, none⟩ = some (.int .u8 ((dig k).toNat : Int))
  rw [h, hx, e]
  simp

theorem numS_small {N : Nat} (h : N < 10) : numS N = ⟨#[dig N]⟩ := by unfold numS; rw [revd_small h]; rfl
theorem numS_step {N : Nat} (h : ¬ N < 10) : numS N = numS (N / 10) ++ ⟨#[dig N]⟩ := by
  apply ByteArray.ext
  apply Array.ext'
  unfold numS
  rw [revd_step h]
  simp

set_option maxRecDepth 100000 in
set_option maxHeartbeats 4000000 in
theorem l01Digits_small (N : Nat) (hN : N < 10) (w : World) :
    Calls Try.prog 75 #[.int .i64 (-(N : Int))] w fun e w' => e = .returned (.string (numS N)) ∧ Below w.heap.size w w' := by
  rw [numS_small hN]
  have hrun := conv1 (w.alloc (.cells #[.int .u8 (48 + (N : Int))] 5)) w.heap.size N (48 + (N : Int)) (by omega) (by simp [go_sem])
  have d1 : decide (-10 < -(N : Int)) = true := decide_eq_true (by omega)
  go_enter Try.func75, Try.ntmps75
  go_wp2_with fail
  go_returns
  exact ⟨rfl, by go_grown⟩

set_option maxRecDepth 100000 in
set_option maxHeartbeats 4000000 in
theorem l01Digits_c : ∀ (N : Nat), N ≤ 4611686018427387904 → ∀ (w : World),
    Calls Try.prog 75 #[.int .i64 (-(N : Int))] w fun e w' => e = .returned (.string (numS N)) ∧ Below w.heap.size w w' := by
  intro N
  induction N using Nat.strongRecOn with
  | _ N ih =>
    intro hN w
    by_cases h : N < 10
    · exact l01Digits_small N h w
    · have hc := fun W => ih (N / 10) (by omega) (by omega) W
      rw [numS_step h]
      clear ih
      have hlen : (numS (N / 10)).size ≤ 19 := by
        have := revd_len 18 (N / 10) (by omega)
        show (revd (N / 10)).reverse.toArray.size ≤ 19
        simpa using this
      generalize numS (N / 10) = sN at *
      have hq : (-(N : Int)).tdiv 10 = -((N / 10 : Nat) : Int) := by rw [Int.neg_tdiv, Int.tdiv_eq_ediv_of_nonneg (by omega)]; simp
      have hr : (-(N : Int)).tmod 10 = -((N % 10 : Nat) : Int) := by rw [Int.neg_tmod, Int.tmod_eq_emod_of_nonneg (by omega)]; simp
      have d1 : decide (-10 < -(N : Int)) = false := decide_eq_false (by omega)
      have hc : ∀ W, Calls Try.prog 75 #[.int .i64 (-((N : Int) / 10))] W fun e w' => e = .returned (.string sN) ∧ Below W.heap.size W w' := fun W => by have h := hc W; rw [show ((N / 10 : Nat) : Int) = (N : Int) / 10 by simp] at h; exact h
      replace hc := Lib.hid hc
      have q1 : IntKind.i64.wrap (-((N : Int) / 10)) = -((N : Int) / 10) := IntWalk.i64_in _ ⟨by omega, by omega⟩
      have q2 : IntKind.i64.wrap (48 + (N : Int) % 10) = 48 + (N : Int) % 10 := IntWalk.i64_in _ ⟨by omega, by omega⟩
      have q3 : IntKind.u8.wrap (48 + (N : Int) % 10) = 48 + (N : Int) % 10 := IntWalk.u8_in _ ⟨by omega, by omega⟩
      have hr2 : (N : Int).tmod 10 = (N : Int) % 10 := Int.tmod_eq_emod_of_nonneg (by omega)
      have hcv := fun (W : World) (g : Nat) => conv1 W g N (48 + (N : Int) % 10) rfl
      have hl : sN.size + 1 ≤ 9223372036854775807 := by omega
      have hl2 : (9223372036854775807 < sN.size + 1) = False := by simp; omega
      clear hq hr hlen hN
      go_enter Try.func75, Try.ntmps75
      go_wp2_with fail
      go_region_law ((go_simp; go_at_call 75; ((with_reducible refine (hc.out _).mono ?_); rintro e w1 ⟨rfl, hb⟩; (first | (refine (fun (e1 : w1.cell? ⟨w.heap.size, 0, none⟩ = some (.int .u8 (48 + (N : Int) % 10))) => ?_) ?_; rotate_left; focus (refine cell_below hb ?_; simp [go_sem]; done)) | skip))))
      all_goals go_wp2_with fail
      all_goals go_returns
      all_goals have hB : Below w.heap.size w w1 := Below.trans (by go_grown) (hb.mono (by simp))
      all_goals have hs1 := hB.size
      all_goals exact ⟨rfl, by go_grown⟩

/-- The text of a number of 63 bits; of others none. -/
def numText (n : Int) : ByteArray := if -4611686018427387904 ≤ n ∧ n ≤ 4611686018427387903 then (if n < 0 then ⟨#[45]⟩ ++ numS n.natAbs else numS n.natAbs) else ByteArray.empty
theorem numS_len (N : Nat) (h : N ≤ 4611686018427387904) : (numS N).size ≤ 19 := by
  have := revd_len 18 N (by omega)
  show (revd N).reverse.toArray.size ≤ 19
  simpa using this

set_option maxHeartbeats 4000000 in
theorem impl_NumText_c (n : Int) (hi : I64 n) (w : World) :
    Calls Try.prog 48 #[.int .i64 n] w fun e w' => e = .returned (.string (numText n)) ∧ Below w.heap.size w w' := by
  obtain ⟨hi0, hi1⟩ := hi
  have W1 := fun W => within_c n (-4611686018427387904) 4611686018427387903 W
  unfold numText
  by_cases h : -4611686018427387904 ≤ n ∧ n ≤ 4611686018427387903
  · rw [decide_eq_true h] at W1
    rw [if_pos h]
    by_cases hn : n < 0
    · obtain ⟨N, rfl⟩ : ∃ N : Nat, n = -(N : Int) := ⟨n.natAbs, by omega⟩
      rw [if_pos hn, Int.natAbs_neg, Int.natAbs_natCast]
      have c1 := fun W => digits_c N (by omega) W
      have hl := numS_len N (by omega)
      generalize numS N = sN at *
      have hl2 : (9223372036854775807 < 1 + sN.size) = False := by simp; omega
      have d1 : decide (-(N : Int) < 0) = true := decide_eq_true hn
      have hn1 : (N : Int) ≤ 9223372036854775807 := by omega
      have hn2 : 0 < N := by omega
      clear h hi0 hi1 hn
      go_enter Try.func48, Try.ntmps48
      go_wp2_with (first | (go_at_call 41; ((with_reducible refine (W1 _).mono ?_); rintro e w1 ⟨rfl, rfl⟩)) | (go_at_call 73; ((with_reducible refine (c1 _).mono ?_); rintro e w1 ⟨rfl, hb⟩)))
      go_returns
      exact ⟨rfl, hb⟩
    · obtain ⟨N, rfl⟩ : ∃ N : Nat, n = N := ⟨n.natAbs, by omega⟩
      rw [if_neg hn, Int.natAbs_natCast]
      have c1 := fun W => digits_c N (by omega) W
      generalize numS N = sN at *
      have d1 : decide ((N : Int) < 0) = false := decide_eq_false hn
      have hn1 : (N : Int) ≤ 9223372036854775807 := by omega
      clear h hi0 hi1
      go_enter Try.func48, Try.ntmps48
      go_wp2_with (first | (go_at_call 41; ((with_reducible refine (W1 _).mono ?_); rintro e w1 ⟨rfl, rfl⟩)) | (go_at_call 73; ((with_reducible refine (c1 _).mono ?_); rintro e w1 ⟨rfl, hb⟩)))
      go_returns
      exact ⟨rfl, hb⟩
  · rw [decide_eq_false h] at W1
    rw [if_neg h]
    clear h
    go_enter Try.func48, Try.ntmps48
    go_wp2_with (go_at_call 41; ((with_reducible refine (W1 _).mono ?_); rintro e w1 ⟨rfl, rfl⟩))
    go_returns
    exact ⟨rfl, Below.refl _ _⟩

set_option maxHeartbeats 4000000 in
theorem spec_NumText_c (n : Int) (hi : I64 n) (w : World) :
    Calls Try.prog 50 #[.int .i64 n] w fun e w' => e = .returned (.string (numText n)) ∧ Below w.heap.size w w' := by
  have W1 := fun W => Wrap_c n hi W
  obtain ⟨hi0, hi1⟩ := hi
  unfold numText
  by_cases h : -4611686018427387904 ≤ n ∧ n ≤ 4611686018427387903
  · rw [(wrap63_eq n).2 h] at W1
    rw [if_pos h]
    have d0 : (n != n) = false := by simp
    by_cases hn : n < 0
    · obtain ⟨N, rfl⟩ : ∃ N : Nat, n = -(N : Int) := ⟨n.natAbs, by omega⟩
      rw [if_pos hn, Int.natAbs_neg, Int.natAbs_natCast]
      have c1 := fun W => l01Digits_c N (by omega) W
      have hl := numS_len N (by omega)
      generalize numS N = sN at *
      have hl2 : (9223372036854775807 < 1 + sN.size) = False := by simp; omega
      have d1 : decide (-(N : Int) < 0) = true := decide_eq_true hn
      have hn1 : (N : Int) ≤ 9223372036854775807 := by omega
      have hn2 : 0 < N := by omega
      clear h hi0 hi1 hn
      go_enter Try.func50, Try.ntmps50
      go_wp2_with (first | (go_at_call 23; ((with_reducible refine (W1 _).mono ?_); rintro e w1 ⟨rfl, rfl⟩)) | (go_at_call 75; ((with_reducible refine (c1 _).mono ?_); rintro e w1 ⟨rfl, hb⟩)))
      go_returns
      exact ⟨rfl, hb⟩
    · obtain ⟨N, rfl⟩ : ∃ N : Nat, n = N := ⟨n.natAbs, by omega⟩
      rw [if_neg hn, Int.natAbs_natCast]
      have c1 := fun W => l01Digits_c N (by omega) W
      generalize numS N = sN at *
      have d1 : decide ((N : Int) < 0) = false := decide_eq_false hn
      have hn1 : (N : Int) ≤ 9223372036854775807 := by omega
      clear h hi0 hi1
      go_enter Try.func50, Try.ntmps50
      go_wp2_with (first | (go_at_call 23; ((with_reducible refine (W1 _).mono ?_); rintro e w1 ⟨rfl, rfl⟩)) | (go_at_call 75; ((with_reducible refine (c1 _).mono ?_); rintro e w1 ⟨rfl, hb⟩)))
      go_returns
      exact ⟨rfl, hb⟩
  · rw [if_neg h]
    have d0 : (wrap63 n != n) = true := by simp [wrap63_eq]; omega
    generalize wrap63 n = wn at *
    clear h
    go_enter Try.func50, Try.ntmps50
    go_wp2_with (go_at_call 23; ((with_reducible refine (W1 _).mono ?_); rintro e w1 ⟨rfl, rfl⟩))
    go_returns
    exact ⟨rfl, Below.refl _ _⟩

end Go.Proofs.Ytpblhonnknmjjaa
