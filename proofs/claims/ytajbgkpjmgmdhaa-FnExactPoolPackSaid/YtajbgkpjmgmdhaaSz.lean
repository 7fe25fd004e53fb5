/- The walks of the sz functions: how much a value holds, taken off a number. Printed by gen_helpers.py. -/
import Derived.Test.YtajbgkpjmgmdhaaRows
import Derived.Test.YtajbgkpjmgmdhaaTypes
namespace Go.Proofs.Ytajbgkpjmgmdhaa
open Go.RowKit
set_option linter.unusedVariables false
set_option linter.unusedSimpArgs false
attribute [local go_sem] Ext.cell


set_option maxHeartbeats 400000 in
theorem szIntS_c (x : List Int) (u : Value) (lo : Nat) (left : Int) (h0 : 0 ≤ left) (h1 : left ≤ 1048576) (w : World) (hx : Sl IntR 1 lo w u x) :
    Calls Try.prog 47 #[u, .int .i64 left] w fun e w' => ∃ n, e = .returned (.int .i64 n) ∧ SzPost (x.length : Int) left n ∧ Below w.heap.size w w' := by
  obtain ⟨a1, c1, rfl, l1, m1, hh⟩ := hx
  go_enter Try.func47, Try.ntmps47
  go_wp2
  all_goals (go_returns; refine ⟨_, rfl, ?_, Below.refl _ _⟩; simp [SzPost]; omega)


set_option maxHeartbeats 1000000 in
theorem szVal_c (x : GVal) (r : List Value) (lo : Nat) (left : Int) (h0 : 0 ≤ left) (h1 : left ≤ 1048576) (w : World) (hx : GVal.R lo w r x) :
    Calls Try.prog 48 #[.agg r.toArray, .int .i64 left] w fun e w' => ∃ n, e = .returned (.int .i64 n) ∧ SzPost x.bulk left n ∧ Below w.heap.size w w' := by
  obtain ⟨x0, x1, x2⟩ := x
  obtain ⟨rfl, ⟨wx0, wx1, wx2⟩⟩ := hx
  dsimp only at *
  have z2 : x2.size ≤ 9223372036854775807 := wx2
  go_enter Try.func48, Try.ntmps48
  go_wp2
  all_goals (go_returns; refine ⟨_, rfl, ?_, by go_grown⟩; (first | ((refine Or.inl ⟨?_, ?_⟩) <;> simp only [GVal.bulk] at * <;> omega) | (refine Or.inr ⟨?_, rfl⟩; simp only [GVal.bulk] at *; omega)))


set_option maxHeartbeats 1000000 in
theorem szValS_c (x : List GVal) (u : Value) (lo : Nat) (left : Int) (h0 : 0 ≤ left) (h1 : left ≤ 1048576) (w : World) (hx : Sl GVal.R 3 lo w u x) :
    Calls Try.prog 26 #[u, .int .i64 left] w fun e w' => ∃ n, e = .returned (.int .i64 n) ∧ SzPost (bulkS GVal.bulk x) left n ∧ Below w.heap.size w w' := by
  obtain ⟨a1, c1, rfl, l1, m1, hh⟩ := hx
  obtain ⟨n, hn⟩ : ∃ n, n = x.length := ⟨_, rfl⟩
  rw [← hn] at l1 ⊢
  have X1 := Lib.hid hn
  clear hn
  have S0 := sum_nonneg GVal.bulk_nonneg x
  by_cases hl : left < n
  · clear S0
    go_enter Try.func26, Try.ntmps26
    go_wp2
    go_returns
    refine ⟨_, rfl, .inr ⟨?_, rfl⟩, Below.refl _ _⟩
    have D := X1.out
    have S0 := sum_nonneg GVal.bulk_nonneg x
    unfold bulkS
    omega
  · clear S0
    go_enter Try.func26, Try.ntmps26
    go_wp2_with fail
    go_loopw [1, 5] (fun l i wr => ∃ (k : Nat) (L : Int), k ≤ n ∧ i = .int .i64 k ∧ l = .int .i64 L ∧ 0 ≤ L ∧ L ≤ 1048576 ∧ Hid (L = left - n - ((x.take k).map GVal.bulk).sum) ∧ Below w.heap.size w wr) (fun _ i _ => n - (intOf i).toNat)
    case atStart => exact ⟨0, left - n, by omega, rfl, rfl, by omega, by omega, by show _ = _; simp, Below.refl _ _⟩
    case round =>
      obtain ⟨k, L, hk, rfl, rfl, hL0, hL1, hL, hw⟩ := hrel
      by_cases hlt : k < n
      · obtain ⟨b1, o1, p, s1, _, rfl, P1, q1, r1⟩ := (hh.below GVal.good hw).get X1 hlt
        have Q1 := q1
        obtain ⟨rfl, _⟩ := q1
        have R1 : wr.cell? ⟨b1, o1 + k * 3, none⟩ = some (.int .i64 p.kind) ∧ wr.cell? ⟨b1, o1 + k * 3 + 1, none⟩ = some (.int .i64 p.n) ∧ wr.cell? ⟨b1, o1 + k * 3 + 2, none⟩ = some (.string p.s) := ⟨by simpa using r1 0 _ rfl, by simpa using r1 1 _ rfl, by simpa using r1 2 _ rfl⟩
        have nb := GVal.bulk_nonneg p
        clear r1
        go_wp2_with (go_at_call 48; refine (szVal_c p _ _ _ (by omega) (by omega) _ Q1).mono ?_; rintro e w1 ⟨n1, rfl, (⟨g1, rfl⟩ | ⟨g1, rfl⟩), hb⟩ <;> (have hw1 := hw.trans (hb.mono hw.size); clear hb R1))
        · go_roundw
          case rel => exact ⟨k + 1, L - p.bulk, by omega, by go_num, rfl, by omega, by omega, by have E := hL.out; have B := sum_take (f := GVal.bulk) P1.out; show _ = _; omega, hw1⟩
          case measure => simp [intOf]; omega
        · go_returns
          refine ⟨_, rfl, ?_, hw1⟩
          have E := hL.out
          have B := sum_take (f := GVal.bulk) P1.out
          have C := sum_take_le (f := GVal.bulk) GVal.bulk_nonneg x (k + 1)
          have D := X1.out
          refine .inr ⟨?_, rfl⟩
          unfold bulkS
          omega
      · go_wp2
        go_returns
        refine ⟨_, rfl, .inl ?_, hw⟩
        obtain rfl : k = n := by omega
        have E := hL.out
        rw [take_full X1] at E
        have D := X1.out
        unfold bulkS
        omega


set_option maxHeartbeats 1000000 in
theorem szCell_c (x : GCell) (r : List Value) (lo : Nat) (left : Int) (h0 : 0 ≤ left) (h1 : left ≤ 1048576) (w : World) (hx : GCell.R lo w r x) :
    Calls Try.prog 15 #[.agg r.toArray, .int .i64 left] w fun e w' => ∃ n, e = .returned (.int .i64 n) ∧ SzPost x.bulk left n ∧ Below w.heap.size w w' := by
  obtain ⟨x0, x1, x2, ⟨x3, x4, x5⟩, ⟨x6, x7, x8⟩⟩ := x
  obtain ⟨rfl, ⟨wx0, wx1, wx2, wx3, wx4, wx5, wx6, wx7, wx8⟩⟩ := hx
  dsimp only at *
  have z2 : x2.size ≤ 9223372036854775807 := wx2
  have z3 := GVal.bulk_nonneg (⟨x3, x4, x5⟩ : GVal)
  have z6 := GVal.bulk_nonneg (⟨x6, x7, x8⟩ : GVal)
  go_enter Try.func15, Try.ntmps15
  go_wp2_with (first | (go_at_call 48; ((with_reducible refine (szVal_c (⟨x3, x4, x5⟩ : GVal) _ lo _ ?_ ?_ _ ?_).mono ?_); omega; omega; exact ⟨rfl, ⟨wx3, wx4, wx5⟩⟩; rintro e w1 ⟨n1, rfl, (⟨g1, rfl⟩ | ⟨g1, rfl⟩), hb⟩ <;> (have hw : Below w.heap.size w w1 := Below.trans (by go_grown) (hb.mono (by go_grown)); obtain ⟨hc, hf⟩ := bcell hb; have hz := hw.size; have hz1 := hb.size; have hs0 : w.heap.size < w1.heap.size := (by have h := hz1; (try simp only [World.size_alloc, World.size_setCell, World.size_drew] at h); omega); clear hb))) | (go_at_call 48; ((with_reducible refine (szVal_c (⟨x6, x7, x8⟩ : GVal) _ lo _ ?_ ?_ _ ?_).mono ?_); omega; omega; exact ⟨rfl, ⟨wx6, wx7, wx8⟩⟩; rintro e w1 ⟨n1, rfl, (⟨g1, rfl⟩ | ⟨g1, rfl⟩), hb⟩ <;> (have hw : Below w.heap.size w w1 := Below.trans (by go_grown) (hb.mono (by go_grown)); obtain ⟨hc, hf⟩ := bcell hb; have hz := hw.size; have hz1 := hb.size; have hs0 : w.heap.size < w1.heap.size := (by have h := hz1; (try simp only [World.size_alloc, World.size_setCell, World.size_drew] at h); omega); clear hb))))
  all_goals (go_returns; refine ⟨_, rfl, ?_, by go_grown⟩; (first | ((refine Or.inl ⟨?_, ?_⟩) <;> simp only [GCell.bulk, GVal.bulk, GVal.bulk] at * <;> omega) | (refine Or.inr ⟨?_, rfl⟩; simp only [GCell.bulk, GVal.bulk, GVal.bulk] at *; omega)))


set_option maxHeartbeats 1000000 in
theorem szCellS_c (x : List GCell) (u : Value) (lo : Nat) (left : Int) (h0 : 0 ≤ left) (h1 : left ≤ 1048576) (w : World) (hx : Sl GCell.R 9 lo w u x) :
    Calls Try.prog 46 #[u, .int .i64 left] w fun e w' => ∃ n, e = .returned (.int .i64 n) ∧ SzPost (bulkS GCell.bulk x) left n ∧ Below w.heap.size w w' := by
  obtain ⟨a1, c1, rfl, l1, m1, hh⟩ := hx
  obtain ⟨n, hn⟩ : ∃ n, n = x.length := ⟨_, rfl⟩
  rw [← hn] at l1 ⊢
  have X1 := Lib.hid hn
  clear hn
  have S0 := sum_nonneg GCell.bulk_nonneg x
  by_cases hl : left < n
  · clear S0
    go_enter Try.func46, Try.ntmps46
    go_wp2
    go_returns
    refine ⟨_, rfl, .inr ⟨?_, rfl⟩, Below.refl _ _⟩
    have D := X1.out
    have S0 := sum_nonneg GCell.bulk_nonneg x
    unfold bulkS
    omega
  · clear S0
    go_enter Try.func46, Try.ntmps46
    go_wp2_with fail
    go_loopw [1, 5] (fun l i wr => ∃ (k : Nat) (L : Int), k ≤ n ∧ i = .int .i64 k ∧ l = .int .i64 L ∧ 0 ≤ L ∧ L ≤ 1048576 ∧ Hid (L = left - n - ((x.take k).map GCell.bulk).sum) ∧ Below w.heap.size w wr) (fun _ i _ => n - (intOf i).toNat)
    case atStart => exact ⟨0, left - n, by omega, rfl, rfl, by omega, by omega, by show _ = _; simp, Below.refl _ _⟩
    case round =>
      obtain ⟨k, L, hk, rfl, rfl, hL0, hL1, hL, hw⟩ := hrel
      by_cases hlt : k < n
      · obtain ⟨b1, o1, p, s1, _, rfl, P1, q1, r1⟩ := (hh.below GCell.good hw).get X1 hlt
        have Q1 := q1
        obtain ⟨rfl, _⟩ := q1
        have R1 : wr.cell? ⟨b1, o1 + k * 9, none⟩ = some (.int .i64 p.kind) ∧ wr.cell? ⟨b1, o1 + k * 9 + 1, none⟩ = some (.int .i64 p.n) ∧ wr.cell? ⟨b1, o1 + k * 9 + 2, none⟩ = some (.string p.s) ∧ wr.cell? ⟨b1, o1 + k * 9 + 3, none⟩ = some (.int .i64 p.a.kind) ∧ wr.cell? ⟨b1, o1 + k * 9 + 4, none⟩ = some (.int .i64 p.a.n) ∧ wr.cell? ⟨b1, o1 + k * 9 + 5, none⟩ = some (.string p.a.s) ∧ wr.cell? ⟨b1, o1 + k * 9 + 6, none⟩ = some (.int .i64 p.b.kind) ∧ wr.cell? ⟨b1, o1 + k * 9 + 7, none⟩ = some (.int .i64 p.b.n) ∧ wr.cell? ⟨b1, o1 + k * 9 + 8, none⟩ = some (.string p.b.s) := ⟨by simpa using r1 0 _ rfl, by simpa using r1 1 _ rfl, by simpa using r1 2 _ rfl, by simpa using r1 3 _ rfl, by simpa using r1 4 _ rfl, by simpa using r1 5 _ rfl, by simpa using r1 6 _ rfl, by simpa using r1 7 _ rfl, by simpa using r1 8 _ rfl⟩
        have nb := GCell.bulk_nonneg p
        clear r1
        go_wp2_with (go_at_call 15; refine (szCell_c p _ _ _ (by omega) (by omega) _ Q1).mono ?_; rintro e w1 ⟨n1, rfl, (⟨g1, rfl⟩ | ⟨g1, rfl⟩), hb⟩ <;> (have hw1 := hw.trans (hb.mono hw.size); clear hb R1))
        · go_roundw
          case rel => exact ⟨k + 1, L - p.bulk, by omega, by go_num, rfl, by omega, by omega, by have E := hL.out; have B := sum_take (f := GCell.bulk) P1.out; show _ = _; omega, hw1⟩
          case measure => simp [intOf]; omega
        · go_returns
          refine ⟨_, rfl, ?_, hw1⟩
          have E := hL.out
          have B := sum_take (f := GCell.bulk) P1.out
          have C := sum_take_le (f := GCell.bulk) GCell.bulk_nonneg x (k + 1)
          have D := X1.out
          refine .inr ⟨?_, rfl⟩
          unfold bulkS
          omega
      · go_wp2
        go_returns
        refine ⟨_, rfl, .inl ?_, hw⟩
        obtain rfl : k = n := by omega
        have E := hL.out
        rw [take_full X1] at E
        have D := X1.out
        unfold bulkS
        omega


set_option maxHeartbeats 1000000 in
theorem szPool_c (x : GPool) (r : List Value) (lo : Nat) (left : Int) (h0 : 0 ≤ left) (h1 : left ≤ 1048576) (w : World) (hx : GPool.R lo w r x) :
    Calls Try.prog 14 #[.agg r.toArray, .int .i64 left] w fun e w' => ∃ n, e = .returned (.int .i64 n) ∧ SzPost x.bulk left n ∧ Below w.heap.size w w' := by
  obtain ⟨x0, x1⟩ := x
  obtain ⟨u0, u1, rfl, _, a0, a1⟩ := hx
  dsimp only at *
  have z0 := bulkS_nonneg GCell.bulk_nonneg x0
  have z1 := length_nonneg x1
  go_enter Try.func14, Try.ntmps14
  go_wp2_with (first | (go_at_call 46; ((with_reducible refine (szCellS_c x0 u0 lo _ ?_ ?_ _ ?_).mono ?_); omega; omega; exact a0.below GCell.good (by go_grown); rintro e w1 ⟨n1, rfl, (⟨g1, rfl⟩ | ⟨g1, rfl⟩), hb⟩ <;> (have hw : Below w.heap.size w w1 := Below.trans (by go_grown) (hb.mono (by go_grown)); obtain ⟨hc, hf⟩ := bcell hb; have hz := hw.size; have hz1 := hb.size; have hs0 : w.heap.size < w1.heap.size := (by have h := hz1; (try simp only [World.size_alloc, World.size_setCell, World.size_drew] at h); omega); clear hb))) | (go_at_call 47; ((with_reducible refine (szIntS_c x1 u1 lo _ ?_ ?_ _ ?_).mono ?_); omega; omega; exact a1.below IntR.good (by go_grown); rintro e w1 ⟨n1, rfl, (⟨g1, rfl⟩ | ⟨g1, rfl⟩), hb⟩ <;> (have hw : Below w.heap.size w w1 := Below.trans (by go_grown) (hb.mono (by go_grown)); obtain ⟨hc, hf⟩ := bcell hb; have hz := hw.size; have hz1 := hb.size; have hs0 : w.heap.size < w1.heap.size := (by have h := hz1; (try simp only [World.size_alloc, World.size_setCell, World.size_drew] at h); omega); clear hb))))
  all_goals (go_returns; refine ⟨_, rfl, ?_, by go_grown⟩; (first | ((refine Or.inl ⟨?_, ?_⟩) <;> simp only [GPool.bulk] at * <;> omega) | (refine Or.inr ⟨?_, rfl⟩; simp only [GPool.bulk] at *; omega)))


end Go.Proofs.Ytajbgkpjmgmdhaa