/- Parts of the proof, merged: Sz. -/
import Derived.Test.YtnmmfcnkpcigoaaGreatRows
import Derived.Test.YtnmmfcnkpcigoaaGreatDe50
/- The walks of the sz functions: how much a value holds, taken off a number. Printed by gen_helpers.py. -/
namespace Go.Proofs.YtnmmfcnkpcigoaaGreat
open Go.RowKit
set_option linter.unusedVariables false
set_option linter.unusedSimpArgs false
attribute [local go_sem] Ext.cell


set_option maxHeartbeats 400000 in
theorem szIntS_c (x : List Int) (u : Value) (lo : Nat) (left : Int) (h0 : 0 ≤ left) (h1 : left ≤ 1048576) (w : World) (hx : Sl IntR 1 lo w u x) :
    Calls Tryz.prog 66 #[u, .int .i64 left] w fun e w' => ∃ n, e = .returned (.int .i64 n) ∧ SzPost (x.length : Int) left n ∧ Below w.heap.size w w' := by
  obtain ⟨a1, c1, rfl, l1, m1, hh⟩ := hx
  go_enter Tryz.func66, Tryz.ntmps66
  go_wp2
  all_goals (go_returns; refine ⟨_, rfl, ?_, Below.refl _ _⟩; simp [SzPost]; omega)


set_option maxHeartbeats 1000000 in
theorem szDNode_c (x : GDNode) (r : List Value) (lo : Nat) (left : Int) (h0 : 0 ≤ left) (h1 : left ≤ 1048576) (w : World) (hx : GDNode.R lo w r x) :
    Calls Tryz.prog 32 #[.agg r.toArray, .int .i64 left] w fun e w' => ∃ n, e = .returned (.int .i64 n) ∧ SzPost x.bulk left n ∧ Below w.heap.size w w' := by
  obtain ⟨x0, x1, x2, x3⟩ := x
  obtain ⟨u0, rfl, ⟨wx0, wx1, wx2⟩, a0⟩ := hx
  dsimp only at *
  have z2 : x2.size ≤ 9223372036854775807 := wx2
  have z3 := length_nonneg x3
  go_enter Tryz.func32, Tryz.ntmps32
  go_wp2_with (first | (go_at_call 66; ((with_reducible refine (szIntS_c x3 u0 lo _ ?_ ?_ _ ?_).mono ?_); omega; omega; exact a0.below IntR.good (by go_grown); rintro e w1 ⟨n1, rfl, (⟨g1, rfl⟩ | ⟨g1, rfl⟩), hb⟩ <;> (have hw : Below w.heap.size w w1 := Below.trans (by go_grown) (hb.mono (by go_grown)); obtain ⟨hc, hf⟩ := bcell hb; have hz := hw.size; have hz1 := hb.size; have hs0 : w.heap.size < w1.heap.size := (by have h := hz1; (try simp only [World.size_alloc, World.size_setCell, World.size_drew] at h); omega); clear hb))))
  all_goals (go_returns; refine ⟨_, rfl, ?_, by go_grown⟩; (first | ((refine Or.inl ⟨?_, ?_⟩) <;> simp only [GDNode.bulk] at * <;> omega) | (refine Or.inr ⟨?_, rfl⟩; simp only [GDNode.bulk] at *; omega)))


set_option maxHeartbeats 1000000 in
theorem szDNodeS_c (x : List GDNode) (u : Value) (lo : Nat) (left : Int) (h0 : 0 ≤ left) (h1 : left ≤ 1048576) (w : World) (hx : Sl GDNode.R 4 lo w u x) :
    Calls Tryz.prog 13 #[u, .int .i64 left] w fun e w' => ∃ n, e = .returned (.int .i64 n) ∧ SzPost (bulkS GDNode.bulk x) left n ∧ Below w.heap.size w w' := by
  obtain ⟨a1, c1, rfl, l1, m1, hh⟩ := hx
  obtain ⟨n, hn⟩ : ∃ n, n = x.length := ⟨_, rfl⟩
  rw [← hn] at l1 ⊢
  have X1 := Lib.hid hn
  clear hn
  have S0 := sum_nonneg GDNode.bulk_nonneg x
  by_cases hl : left < n
  · clear S0
    go_enter Tryz.func13, Tryz.ntmps13
    go_wp2
    go_returns
    refine ⟨_, rfl, .inr ⟨?_, rfl⟩, Below.refl _ _⟩
    have D := X1.out
    have S0 := sum_nonneg GDNode.bulk_nonneg x
    unfold bulkS
    omega
  · clear S0
    go_enter Tryz.func13, Tryz.ntmps13
    go_wp2_with fail
    go_loopw [1, 5] (fun l i wr => ∃ (k : Nat) (L : Int), k ≤ n ∧ i = .int .i64 k ∧ l = .int .i64 L ∧ 0 ≤ L ∧ L ≤ 1048576 ∧ Hid (L = left - n - ((x.take k).map GDNode.bulk).sum) ∧ Below w.heap.size w wr) (fun _ i _ => n - (intOf i).toNat)
    case atStart => exact ⟨0, left - n, by omega, rfl, rfl, by omega, by omega, by show _ = _; simp, Below.refl _ _⟩
    case round =>
      obtain ⟨k, L, hk, rfl, rfl, hL0, hL1, hL, hw⟩ := hrel
      by_cases hlt : k < n
      · obtain ⟨b1, o1, p, s1, _, rfl, P1, q1, r1⟩ := (hh.below GDNode.good hw).get X1 hlt
        have Q1 := q1
        obtain ⟨s0, rfl, _⟩ := q1
        have R1 : wr.cell? ⟨b1, o1 + k * 4, none⟩ = some (.int .i64 p.kind) ∧ wr.cell? ⟨b1, o1 + k * 4 + 1, none⟩ = some (.int .i64 p.n) ∧ wr.cell? ⟨b1, o1 + k * 4 + 2, none⟩ = some (.string p.s) ∧ wr.cell? ⟨b1, o1 + k * 4 + 3, none⟩ = some (s0) := ⟨by simpa using r1 0 _ rfl, by simpa using r1 1 _ rfl, by simpa using r1 2 _ rfl, by simpa using r1 3 _ rfl⟩
        have nb := GDNode.bulk_nonneg p
        clear r1
        go_wp2_with (go_at_call 32; refine (szDNode_c p _ _ _ (by omega) (by omega) _ Q1).mono ?_; rintro e w1 ⟨n1, rfl, (⟨g1, rfl⟩ | ⟨g1, rfl⟩), hb⟩ <;> (have hw1 := hw.trans (hb.mono hw.size); clear hb R1))
        · go_roundw
          case rel => exact ⟨k + 1, L - p.bulk, by omega, by go_num, rfl, by omega, by omega, by have E := hL.out; have B := sum_take (f := GDNode.bulk) P1.out; show _ = _; omega, hw1⟩
          case measure => simp [intOf]; omega
        · go_returns
          refine ⟨_, rfl, ?_, hw1⟩
          have E := hL.out
          have B := sum_take (f := GDNode.bulk) P1.out
          have C := sum_take_le (f := GDNode.bulk) GDNode.bulk_nonneg x (k + 1)
          have D := X1.out
          refine .inr ⟨?_, rfl⟩
          unfold bulkS
          omega
      · go_wp2
        go_returns
        refine ⟨_, rfl, .inl ?_, hw⟩
        obtain rfl : k = n := by omega
        have E := hL.out
        rw [take_full X1] at E
        have D := X1.out
        unfold bulkS
        omega


set_option maxHeartbeats 1000000 in
theorem szData_c (x : GData) (r : List Value) (lo : Nat) (left : Int) (h0 : 0 ≤ left) (h1 : left ≤ 1048576) (w : World) (hx : GData.R lo w r x) :
    Calls Tryz.prog 4 #[.agg r.toArray, .int .i64 left] w fun e w' => ∃ n, e = .returned (.int .i64 n) ∧ SzPost x.bulk left n ∧ Below w.heap.size w w' := by
  obtain ⟨x0⟩ := x
  obtain ⟨u0, rfl, _, a0⟩ := hx
  dsimp only at *
  have z0 := bulkS_nonneg GDNode.bulk_nonneg x0
  go_enter Tryz.func4, Tryz.ntmps4
  go_wp2_with (first | (go_at_call 13; ((with_reducible refine (szDNodeS_c x0 u0 lo _ ?_ ?_ _ ?_).mono ?_); omega; omega; exact a0.below GDNode.good (by go_grown); rintro e w1 ⟨n1, rfl, (⟨g1, rfl⟩ | ⟨g1, rfl⟩), hb⟩ <;> (have hw : Below w.heap.size w w1 := Below.trans (by go_grown) (hb.mono (by go_grown)); obtain ⟨hc, hf⟩ := bcell hb; have hz := hw.size; have hz1 := hb.size; have hs0 : w.heap.size < w1.heap.size := (by have h := hz1; (try simp only [World.size_alloc, World.size_setCell, World.size_drew] at h); omega); clear hb))))
  all_goals (go_returns; refine ⟨_, rfl, ?_, by go_grown⟩; (first | ((refine Or.inl ⟨?_, ?_⟩) <;> simp only [GData.bulk] at * <;> omega) | (refine Or.inr ⟨?_, rfl⟩; simp only [GData.bulk] at *; omega)))


end Go.Proofs.YtnmmfcnkpcigoaaGreat
