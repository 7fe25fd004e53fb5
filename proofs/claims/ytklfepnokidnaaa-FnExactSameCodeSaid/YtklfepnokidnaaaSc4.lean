/- Parts of the proof, merged: Sz. -/
import Derived.Test.YtklfepnokidnaaaRows
import Derived.Test.YtklfepnokidnaaaSc3
/- The walks of the sz functions: how much a value holds, taken off a number. Printed by gen_helpers.py. -/
namespace Go.Proofs.Ytklfepnokidnaaa
open Go.RowKit
set_option linter.unusedVariables false
set_option linter.unusedSimpArgs false
attribute [local go_sem] Ext.cell


set_option maxHeartbeats 400000 in
theorem szIntS_c (x : List Int) (u : Value) (lo : Nat) (left : Int) (h0 : 0 ≤ left) (h1 : left ≤ 1048576) (w : World) (hx : Sl IntR 1 lo w u x) :
    Calls Try.prog 82 #[u, .int .i64 left] w fun e w' => ∃ n, e = .returned (.int .i64 n) ∧ SzPost (x.length : Int) left n ∧ Below w.heap.size w w' := by
  obtain ⟨a1, c1, rfl, l1, m1, hh⟩ := hx
  go_enter Try.func82, Try.ntmps82
  go_wp2
  all_goals (go_returns; refine ⟨_, rfl, ?_, Below.refl _ _⟩; simp [SzPost]; omega)


set_option maxHeartbeats 1000000 in
theorem szPNode_c (x : GPNode) (r : List Value) (lo : Nat) (left : Int) (h0 : 0 ≤ left) (h1 : left ≤ 1048576) (w : World) (hx : GPNode.R lo w r x) :
    Calls Try.prog 73 #[.agg r.toArray, .int .i64 left] w fun e w' => ∃ n, e = .returned (.int .i64 n) ∧ SzPost x.bulk left n ∧ Below w.heap.size w w' := by
  obtain ⟨x0, x1, x2, x3⟩ := x
  obtain ⟨u0, rfl, ⟨wx0, wx1, wx2⟩, a0⟩ := hx
  dsimp only at *
  have z2 : x2.size ≤ 9223372036854775807 := wx2
  have z3 := length_nonneg x3
  go_enter Try.func73, Try.ntmps73
  go_wp2_with (first | (go_at_call 82; ((with_reducible refine (szIntS_c x3 u0 lo _ ?_ ?_ _ ?_).mono ?_); omega; omega; exact a0.below IntR.good (by go_grown); rintro e w1 ⟨n1, rfl, (⟨g1, rfl⟩ | ⟨g1, rfl⟩), hb⟩ <;> (have hw : Below w.heap.size w w1 := Below.trans (by go_grown) (hb.mono (by go_grown)); obtain ⟨hc, hf⟩ := bcell hb; have hz := hw.size; have hz1 := hb.size; have hs0 : w.heap.size < w1.heap.size := (by have h := hz1; (try simp only [World.size_alloc, World.size_setCell, World.size_drew] at h); omega); clear hb))))
  all_goals (go_returns; refine ⟨_, rfl, ?_, by go_grown⟩; (first | ((refine Or.inl ⟨?_, ?_⟩) <;> simp only [GPNode.bulk] at * <;> omega) | (refine Or.inr ⟨?_, rfl⟩; simp only [GPNode.bulk] at *; omega)))


set_option maxHeartbeats 1000000 in
theorem szPNodeS_c (x : List GPNode) (u : Value) (lo : Nat) (left : Int) (h0 : 0 ≤ left) (h1 : left ≤ 1048576) (w : World) (hx : Sl GPNode.R 4 lo w u x) :
    Calls Try.prog 50 #[u, .int .i64 left] w fun e w' => ∃ n, e = .returned (.int .i64 n) ∧ SzPost (bulkS GPNode.bulk x) left n ∧ Below w.heap.size w w' := by
  obtain ⟨a1, c1, rfl, l1, m1, hh⟩ := hx
  obtain ⟨n, hn⟩ : ∃ n, n = x.length := ⟨_, rfl⟩
  rw [← hn] at l1 ⊢
  have X1 := Lib.hid hn
  clear hn
  have S0 := sum_nonneg GPNode.bulk_nonneg x
  by_cases hl : left < n
  · clear S0
    go_enter Try.func50, Try.ntmps50
    go_wp2
    go_returns
    refine ⟨_, rfl, .inr ⟨?_, rfl⟩, Below.refl _ _⟩
    have D := X1.out
    have S0 := sum_nonneg GPNode.bulk_nonneg x
    unfold bulkS
    omega
  · clear S0
    go_enter Try.func50, Try.ntmps50
    go_wp2_with fail
    go_loopw [1, 5] (fun l i wr => ∃ (k : Nat) (L : Int), k ≤ n ∧ i = .int .i64 k ∧ l = .int .i64 L ∧ 0 ≤ L ∧ L ≤ 1048576 ∧ Hid (L = left - n - ((x.take k).map GPNode.bulk).sum) ∧ Below w.heap.size w wr) (fun _ i _ => n - (intOf i).toNat)
    case atStart => exact ⟨0, left - n, by omega, rfl, rfl, by omega, by omega, by show _ = _; simp, Below.refl _ _⟩
    case round =>
      obtain ⟨k, L, hk, rfl, rfl, hL0, hL1, hL, hw⟩ := hrel
      by_cases hlt : k < n
      · obtain ⟨b1, o1, p, s1, _, rfl, P1, q1, r1⟩ := (hh.below GPNode.good hw).get X1 hlt
        have Q1 := q1
        obtain ⟨s0, rfl, _⟩ := q1
        have R1 : wr.cell? ⟨b1, o1 + k * 4, none⟩ = some (.int .i64 p.kind) ∧ wr.cell? ⟨b1, o1 + k * 4 + 1, none⟩ = some (.int .i64 p.n) ∧ wr.cell? ⟨b1, o1 + k * 4 + 2, none⟩ = some (.string p.s) ∧ wr.cell? ⟨b1, o1 + k * 4 + 3, none⟩ = some (s0) := ⟨by simpa using r1 0 _ rfl, by simpa using r1 1 _ rfl, by simpa using r1 2 _ rfl, by simpa using r1 3 _ rfl⟩
        have nb := GPNode.bulk_nonneg p
        clear r1
        go_wp2_with (go_at_call 73; refine (szPNode_c p _ _ _ (by omega) (by omega) _ Q1).mono ?_; rintro e w1 ⟨n1, rfl, (⟨g1, rfl⟩ | ⟨g1, rfl⟩), hb⟩ <;> (have hw1 := hw.trans (hb.mono hw.size); clear hb R1))
        · go_roundw
          case rel => exact ⟨k + 1, L - p.bulk, by omega, by go_num, rfl, by omega, by omega, by have E := hL.out; have B := sum_take (f := GPNode.bulk) P1.out; show _ = _; omega, hw1⟩
          case measure => simp [intOf]; omega
        · go_returns
          refine ⟨_, rfl, ?_, hw1⟩
          have E := hL.out
          have B := sum_take (f := GPNode.bulk) P1.out
          have C := sum_take_le (f := GPNode.bulk) GPNode.bulk_nonneg x (k + 1)
          have D := X1.out
          refine .inr ⟨?_, rfl⟩
          unfold bulkS
          omega
      · go_wp2
        go_returns
        refine ⟨_, rfl, .inl ?_, hw⟩
        obtain rfl : k = n := by omega
        have E := hL.out
        rw [take_full X1] at E
        have D := X1.out
        unfold bulkS
        omega


set_option maxHeartbeats 1000000 in
theorem szPat_c (x : GPat) (r : List Value) (lo : Nat) (left : Int) (h0 : 0 ≤ left) (h1 : left ≤ 1048576) (w : World) (hx : GPat.R lo w r x) :
    Calls Try.prog 24 #[.agg r.toArray, .int .i64 left] w fun e w' => ∃ n, e = .returned (.int .i64 n) ∧ SzPost x.bulk left n ∧ Below w.heap.size w w' := by
  obtain ⟨x0⟩ := x
  obtain ⟨u0, rfl, _, a0⟩ := hx
  dsimp only at *
  have z0 := bulkS_nonneg GPNode.bulk_nonneg x0
  go_enter Try.func24, Try.ntmps24
  go_wp2_with (first | (go_at_call 50; ((with_reducible refine (szPNodeS_c x0 u0 lo _ ?_ ?_ _ ?_).mono ?_); omega; omega; exact a0.below GPNode.good (by go_grown); rintro e w1 ⟨n1, rfl, (⟨g1, rfl⟩ | ⟨g1, rfl⟩), hb⟩ <;> (have hw : Below w.heap.size w w1 := Below.trans (by go_grown) (hb.mono (by go_grown)); obtain ⟨hc, hf⟩ := bcell hb; have hz := hw.size; have hz1 := hb.size; have hs0 : w.heap.size < w1.heap.size := (by have h := hz1; (try simp only [World.size_alloc, World.size_setCell, World.size_drew] at h); omega); clear hb))))
  all_goals (go_returns; refine ⟨_, rfl, ?_, by go_grown⟩; (first | ((refine Or.inl ⟨?_, ?_⟩) <;> simp only [GPat.bulk] at * <;> omega) | (refine Or.inr ⟨?_, rfl⟩; simp only [GPat.bulk] at *; omega)))


set_option maxHeartbeats 1000000 in
theorem szPatS_c (x : List GPat) (u : Value) (lo : Nat) (left : Int) (h0 : 0 ≤ left) (h1 : left ≤ 1048576) (w : World) (hx : Sl GPat.R 1 lo w u x) :
    Calls Try.prog 10 #[u, .int .i64 left] w fun e w' => ∃ n, e = .returned (.int .i64 n) ∧ SzPost (bulkS GPat.bulk x) left n ∧ Below w.heap.size w w' := by
  obtain ⟨a1, c1, rfl, l1, m1, hh⟩ := hx
  obtain ⟨n, hn⟩ : ∃ n, n = x.length := ⟨_, rfl⟩
  rw [← hn] at l1 ⊢
  have X1 := Lib.hid hn
  clear hn
  have S0 := sum_nonneg GPat.bulk_nonneg x
  by_cases hl : left < n
  · clear S0
    go_enter Try.func10, Try.ntmps10
    go_wp2
    go_returns
    refine ⟨_, rfl, .inr ⟨?_, rfl⟩, Below.refl _ _⟩
    have D := X1.out
    have S0 := sum_nonneg GPat.bulk_nonneg x
    unfold bulkS
    omega
  · clear S0
    go_enter Try.func10, Try.ntmps10
    go_wp2_with fail
    go_loopw [1, 5] (fun l i wr => ∃ (k : Nat) (L : Int), k ≤ n ∧ i = .int .i64 k ∧ l = .int .i64 L ∧ 0 ≤ L ∧ L ≤ 1048576 ∧ Hid (L = left - n - ((x.take k).map GPat.bulk).sum) ∧ Below w.heap.size w wr) (fun _ i _ => n - (intOf i).toNat)
    case atStart => exact ⟨0, left - n, by omega, rfl, rfl, by omega, by omega, by show _ = _; simp, Below.refl _ _⟩
    case round =>
      obtain ⟨k, L, hk, rfl, rfl, hL0, hL1, hL, hw⟩ := hrel
      by_cases hlt : k < n
      · obtain ⟨b1, o1, p, s1, _, rfl, P1, q1, r1⟩ := (hh.below GPat.good hw).get X1 hlt
        have Q1 := q1
        obtain ⟨s0, rfl, _⟩ := q1
        have R1 : wr.cell? ⟨b1, o1 + k, none⟩ = some (s0) := (by simpa using r1 0 _ rfl)
        have nb := GPat.bulk_nonneg p
        clear r1
        go_wp2_with (go_at_call 24; refine (szPat_c p _ _ _ (by omega) (by omega) _ Q1).mono ?_; rintro e w1 ⟨n1, rfl, (⟨g1, rfl⟩ | ⟨g1, rfl⟩), hb⟩ <;> (have hw1 := hw.trans (hb.mono hw.size); clear hb R1))
        · go_roundw
          case rel => exact ⟨k + 1, L - p.bulk, by omega, by go_num, rfl, by omega, by omega, by have E := hL.out; have B := sum_take (f := GPat.bulk) P1.out; show _ = _; omega, hw1⟩
          case measure => simp [intOf]; omega
        · go_returns
          refine ⟨_, rfl, ?_, hw1⟩
          have E := hL.out
          have B := sum_take (f := GPat.bulk) P1.out
          have C := sum_take_le (f := GPat.bulk) GPat.bulk_nonneg x (k + 1)
          have D := X1.out
          refine .inr ⟨?_, rfl⟩
          unfold bulkS
          omega
      · go_wp2
        go_returns
        refine ⟨_, rfl, .inl ?_, hw⟩
        obtain rfl : k = n := by omega
        have E := hL.out
        rw [take_full X1] at E
        have D := X1.out
        unfold bulkS
        omega


set_option maxHeartbeats 1000000 in
theorem szIns_c (x : GIns) (r : List Value) (lo : Nat) (left : Int) (h0 : 0 ≤ left) (h1 : left ≤ 1048576) (w : World) (hx : GIns.R lo w r x) :
    Calls Try.prog 23 #[.agg r.toArray, .int .i64 left] w fun e w' => ∃ n, e = .returned (.int .i64 n) ∧ SzPost x.bulk left n ∧ Below w.heap.size w w' := by
  obtain ⟨x0, x1, x2, x3⟩ := x
  obtain ⟨rfl, ⟨wx0, wx1, wx2, wx3⟩⟩ := hx
  dsimp only at *
  have z3 : x3.size ≤ 9223372036854775807 := wx3
  go_enter Try.func23, Try.ntmps23
  go_wp2
  all_goals (go_returns; refine ⟨_, rfl, ?_, by go_grown⟩; (first | ((refine Or.inl ⟨?_, ?_⟩) <;> simp only [GIns.bulk] at * <;> omega) | (refine Or.inr ⟨?_, rfl⟩; simp only [GIns.bulk] at *; omega)))


set_option maxHeartbeats 1000000 in
theorem szInsS_c (x : List GIns) (u : Value) (lo : Nat) (left : Int) (h0 : 0 ≤ left) (h1 : left ≤ 1048576) (w : World) (hx : Sl GIns.R 4 lo w u x) :
    Calls Try.prog 9 #[u, .int .i64 left] w fun e w' => ∃ n, e = .returned (.int .i64 n) ∧ SzPost (bulkS GIns.bulk x) left n ∧ Below w.heap.size w w' := by
  obtain ⟨a1, c1, rfl, l1, m1, hh⟩ := hx
  obtain ⟨n, hn⟩ : ∃ n, n = x.length := ⟨_, rfl⟩
  rw [← hn] at l1 ⊢
  have X1 := Lib.hid hn
  clear hn
  have S0 := sum_nonneg GIns.bulk_nonneg x
  by_cases hl : left < n
  · clear S0
    go_enter Try.func9, Try.ntmps9
    go_wp2
    go_returns
    refine ⟨_, rfl, .inr ⟨?_, rfl⟩, Below.refl _ _⟩
    have D := X1.out
    have S0 := sum_nonneg GIns.bulk_nonneg x
    unfold bulkS
    omega
  · clear S0
    go_enter Try.func9, Try.ntmps9
    go_wp2_with fail
    go_loopw [1, 5] (fun l i wr => ∃ (k : Nat) (L : Int), k ≤ n ∧ i = .int .i64 k ∧ l = .int .i64 L ∧ 0 ≤ L ∧ L ≤ 1048576 ∧ Hid (L = left - n - ((x.take k).map GIns.bulk).sum) ∧ Below w.heap.size w wr) (fun _ i _ => n - (intOf i).toNat)
    case atStart => exact ⟨0, left - n, by omega, rfl, rfl, by omega, by omega, by show _ = _; simp, Below.refl _ _⟩
    case round =>
      obtain ⟨k, L, hk, rfl, rfl, hL0, hL1, hL, hw⟩ := hrel
      by_cases hlt : k < n
      · obtain ⟨b1, o1, p, s1, _, rfl, P1, q1, r1⟩ := (hh.below GIns.good hw).get X1 hlt
        have Q1 := q1
        obtain ⟨rfl, _⟩ := q1
        have R1 : wr.cell? ⟨b1, o1 + k * 4, none⟩ = some (.int .i64 p.op) ∧ wr.cell? ⟨b1, o1 + k * 4 + 1, none⟩ = some (.int .i64 p.a) ∧ wr.cell? ⟨b1, o1 + k * 4 + 2, none⟩ = some (.int .i64 p.b) ∧ wr.cell? ⟨b1, o1 + k * 4 + 3, none⟩ = some (.string p.s) := ⟨by simpa using r1 0 _ rfl, by simpa using r1 1 _ rfl, by simpa using r1 2 _ rfl, by simpa using r1 3 _ rfl⟩
        have nb := GIns.bulk_nonneg p
        clear r1
        go_wp2_with (go_at_call 23; refine (szIns_c p _ _ _ (by omega) (by omega) _ Q1).mono ?_; rintro e w1 ⟨n1, rfl, (⟨g1, rfl⟩ | ⟨g1, rfl⟩), hb⟩ <;> (have hw1 := hw.trans (hb.mono hw.size); clear hb R1))
        · go_roundw
          case rel => exact ⟨k + 1, L - p.bulk, by omega, by go_num, rfl, by omega, by omega, by have E := hL.out; have B := sum_take (f := GIns.bulk) P1.out; show _ = _; omega, hw1⟩
          case measure => simp [intOf]; omega
        · go_returns
          refine ⟨_, rfl, ?_, hw1⟩
          have E := hL.out
          have B := sum_take (f := GIns.bulk) P1.out
          have C := sum_take_le (f := GIns.bulk) GIns.bulk_nonneg x (k + 1)
          have D := X1.out
          refine .inr ⟨?_, rfl⟩
          unfold bulkS
          omega
      · go_wp2
        go_returns
        refine ⟨_, rfl, .inl ?_, hw⟩
        obtain rfl : k = n := by omega
        have E := hL.out
        rw [take_full X1] at E
        have D := X1.out
        unfold bulkS
        omega


set_option maxHeartbeats 1000000 in
theorem szCode_c (x : GCode) (r : List Value) (lo : Nat) (left : Int) (h0 : 0 ≤ left) (h1 : left ≤ 1048576) (w : World) (hx : GCode.R lo w r x) :
    Calls Try.prog 4 #[.agg r.toArray, .int .i64 left] w fun e w' => ∃ n, e = .returned (.int .i64 n) ∧ SzPost x.bulk left n ∧ Below w.heap.size w w' := by
  obtain ⟨x0, x1⟩ := x
  obtain ⟨u0, u1, rfl, _, a0, a1⟩ := hx
  dsimp only at *
  have z0 := bulkS_nonneg GIns.bulk_nonneg x0
  have z1 := bulkS_nonneg GPat.bulk_nonneg x1
  go_enter Try.func4, Try.ntmps4
  go_wp2_with (first | (go_at_call 9; ((with_reducible refine (szInsS_c x0 u0 lo _ ?_ ?_ _ ?_).mono ?_); omega; omega; exact a0.below GIns.good (by go_grown); rintro e w1 ⟨n1, rfl, (⟨g1, rfl⟩ | ⟨g1, rfl⟩), hb⟩ <;> (have hw : Below w.heap.size w w1 := Below.trans (by go_grown) (hb.mono (by go_grown)); obtain ⟨hc, hf⟩ := bcell hb; have hz := hw.size; have hz1 := hb.size; have hs0 : w.heap.size < w1.heap.size := (by have h := hz1; (try simp only [World.size_alloc, World.size_setCell, World.size_drew] at h); omega); clear hb))) | (go_at_call 10; ((with_reducible refine (szPatS_c x1 u1 lo _ ?_ ?_ _ ?_).mono ?_); omega; omega; exact a1.below GPat.good (by go_grown); rintro e w1 ⟨n1, rfl, (⟨g1, rfl⟩ | ⟨g1, rfl⟩), hb⟩ <;> (have hw : Below w.heap.size w w1 := Below.trans (by go_grown) (hb.mono (by go_grown)); obtain ⟨hc, hf⟩ := bcell hb; have hz := hw.size; have hz1 := hb.size; have hs0 : w.heap.size < w1.heap.size := (by have h := hz1; (try simp only [World.size_alloc, World.size_setCell, World.size_drew] at h); omega); clear hb))))
  all_goals (go_returns; refine ⟨_, rfl, ?_, by go_grown⟩; (first | ((refine Or.inl ⟨?_, ?_⟩) <;> simp only [GCode.bulk] at * <;> omega) | (refine Or.inr ⟨?_, rfl⟩; simp only [GCode.bulk] at *; omega)))


end Go.Proofs.Ytklfepnokidnaaa
