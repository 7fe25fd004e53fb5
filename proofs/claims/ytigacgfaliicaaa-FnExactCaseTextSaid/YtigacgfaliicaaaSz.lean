/- The walks of the sz functions: how much a value holds, taken off a number. Printed by gen_helpers.py. -/
import Derived.Test.YtigacgfaliicaaaRows
import Derived.Test.YtigacgfaliicaaaTypes
namespace Go.Proofs.Ytigacgfaliicaaa
open Go.RowKit
set_option linter.unusedVariables false
set_option linter.unusedSimpArgs false
attribute [local go_sem] Ext.cell


set_option maxHeartbeats 400000 in
theorem szIntS_c (x : List Int) (u : Value) (lo : Nat) (left : Int) (h0 : 0 ≤ left) (h1 : left ≤ 1048576) (w : World) (hx : Sl IntR 1 lo w u x) :
    Calls Try.prog 10 #[u, .int .i64 left] w fun e w' => ∃ n, e = .returned (.int .i64 n) ∧ SzPost (x.length : Int) left n ∧ Below w.heap.size w w' := by
  obtain ⟨a1, c1, rfl, l1, m1, hh⟩ := hx
  go_enter Try.func10, Try.ntmps10
  go_wp2
  all_goals (go_returns; refine ⟨_, rfl, ?_, Below.refl _ _⟩; simp [SzPost]; omega)


set_option maxHeartbeats 1000000 in
theorem szStringS_c (x : List ByteArray) (u : Value) (lo : Nat) (left : Int) (h0 : 0 ≤ left) (h1 : left ≤ 1048576) (w : World) (hx : Sl StrR 1 lo w u x) :
    Calls Try.prog 9 #[u, .int .i64 left] w fun e w' => ∃ n, e = .returned (.int .i64 n) ∧ SzPost (bulkS (fun s : ByteArray => (s.size : Int)) x) left n ∧ Below w.heap.size w w' := by
  obtain ⟨a1, c1, rfl, l1, m1, hh⟩ := hx
  obtain ⟨n, hn⟩ : ∃ n, n = x.length := ⟨_, rfl⟩
  rw [← hn] at l1 ⊢
  have X1 := Lib.hid hn
  clear hn
  have S0 := sum_nonneg size_nonneg x
  by_cases hl : left < n
  · clear S0
    go_enter Try.func9, Try.ntmps9
    go_wp2
    go_returns
    refine ⟨_, rfl, .inr ⟨?_, rfl⟩, Below.refl _ _⟩
    have D := X1.out
    have S0 := sum_nonneg size_nonneg x
    unfold bulkS
    omega
  · clear S0
    go_enter Try.func9, Try.ntmps9
    go_wp2_with fail
    go_loopw [1, 5] (fun l i wr => ∃ (k : Nat) (L : Int), k ≤ n ∧ i = .int .i64 k ∧ l = .int .i64 L ∧ 0 ≤ L ∧ L ≤ 1048576 ∧ Hid (L = left - n - ((x.take k).map (fun s : ByteArray => (s.size : Int))).sum) ∧ Below w.heap.size w wr) (fun _ i _ => n - (intOf i).toNat)
    case atStart => exact ⟨0, left - n, by omega, rfl, rfl, by omega, by omega, by show _ = _; simp, Below.refl _ _⟩
    case round =>
      obtain ⟨k, L, hk, rfl, rfl, hL0, hL1, hL, hw⟩ := hrel
      by_cases hlt : k < n
      · obtain ⟨b1, o1, p, s1, _, rfl, P1, q1, r1⟩ := (hh.below StrR.good hw).get X1 hlt
        obtain ⟨rfl, hp⟩ := q1
        have hp' : p.size ≤ 9223372036854775807 := hp
        have R1 : wr.cell? ⟨b1, o1 + k, none⟩ = some (.string p) := by simpa using r1 0 _ rfl
        clear r1 hp
        go_wp2
        · go_returns
          refine ⟨_, rfl, ?_, hw⟩
          have E := hL.out
          have B := sum_take (f := (fun s : ByteArray => (s.size : Int))) P1.out
          have C := sum_take_le (f := (fun s : ByteArray => (s.size : Int))) size_nonneg x (k + 1)
          have D := X1.out
          refine .inr ⟨?_, rfl⟩
          unfold bulkS
          (try dsimp only at B C E ⊢)
          omega
        · go_roundw
          case rel => exact ⟨k + 1, L - (p.size : Int), by omega, by go_num, rfl, by omega, by omega, by have E := hL.out; have B := sum_take (f := (fun s : ByteArray => (s.size : Int))) P1.out; show _ = _; (try dsimp only at B E ⊢); omega, hw⟩
          case measure => simp [intOf]; omega
      · go_wp2
        go_returns
        refine ⟨_, rfl, .inl ?_, hw⟩
        obtain rfl : k = n := by omega
        have E := hL.out
        rw [take_full X1] at E
        have D := X1.out
        unfold bulkS
        omega


set_option maxHeartbeats 1000000 in
theorem szCase_c (x : GCase) (r : List Value) (lo : Nat) (left : Int) (h0 : 0 ≤ left) (h1 : left ≤ 1048576) (w : World) (hx : GCase.R lo w r x) :
    Calls Try.prog 4 #[.agg r.toArray, .int .i64 left] w fun e w' => ∃ n, e = .returned (.int .i64 n) ∧ SzPost x.bulk left n ∧ Below w.heap.size w w' := by
  obtain ⟨x0, x1, x2, x3⟩ := x
  obtain ⟨u0, u1, u2, rfl, wx0, a0, a1, a2⟩ := hx
  dsimp only at *
  have z0 : x0.size ≤ 9223372036854775807 := wx0
  have z1 := bulkS_nonneg size_nonneg x1
  have z2 := length_nonneg x2
  have z3 := bulkS_nonneg size_nonneg x3
  go_enter Try.func4, Try.ntmps4
  go_wp2_with (first | (go_at_call 9; ((with_reducible refine (szStringS_c x1 u0 lo _ ?_ ?_ _ ?_).mono ?_); omega; omega; exact a0.below StrR.good (by go_grown); rintro e w1 ⟨n1, rfl, (⟨g1, rfl⟩ | ⟨g1, rfl⟩), hb⟩ <;> (have hw : Below w.heap.size w w1 := Below.trans (by go_grown) (hb.mono (by go_grown)); obtain ⟨hc, hf⟩ := bcell hb; have hz := hw.size; have hz1 := hb.size; have hs0 : w.heap.size < w1.heap.size := (by have h := hz1; (try simp only [World.size_alloc, World.size_setCell, World.size_drew] at h); omega); clear hb))) | (go_at_call 10; ((with_reducible refine (szIntS_c x2 u1 lo _ ?_ ?_ _ ?_).mono ?_); omega; omega; exact a1.below IntR.good (by go_grown); rintro e w1 ⟨n1, rfl, (⟨g1, rfl⟩ | ⟨g1, rfl⟩), hb⟩ <;> (have hw : Below w.heap.size w w1 := Below.trans (by go_grown) (hb.mono (by go_grown)); obtain ⟨hc, hf⟩ := bcell hb; have hz := hw.size; have hz1 := hb.size; have hs0 : w.heap.size < w1.heap.size := (by have h := hz1; (try simp only [World.size_alloc, World.size_setCell, World.size_drew] at h); omega); clear hb))) | (go_at_call 9; ((with_reducible refine (szStringS_c x3 u2 lo _ ?_ ?_ _ ?_).mono ?_); omega; omega; exact a2.below StrR.good (by go_grown); rintro e w1 ⟨n1, rfl, (⟨g1, rfl⟩ | ⟨g1, rfl⟩), hb⟩ <;> (have hw : Below w.heap.size w w1 := Below.trans (by go_grown) (hb.mono (by go_grown)); obtain ⟨hc, hf⟩ := bcell hb; have hz := hw.size; have hz1 := hb.size; have hs0 : w.heap.size < w1.heap.size := (by have h := hz1; (try simp only [World.size_alloc, World.size_setCell, World.size_drew] at h); omega); clear hb))))
  all_goals (go_returns; refine ⟨_, rfl, ?_, by go_grown⟩; (first | ((refine Or.inl ⟨?_, ?_⟩) <;> simp only [GCase.bulk] at * <;> omega) | (refine Or.inr ⟨?_, rfl⟩; simp only [GCase.bulk] at *; omega)))


end Go.Proofs.Ytigacgfaliicaaa