/- Parts of the proof, merged: Sz. -/
import Derived.Test.YtaimekaagmcmnaaGreatRows
import Derived.Test.YtaimekaagmcmnaaGreatNe51
namespace Go.Proofs.YtaimekaagmcmnaaGreat
open Go.RowKit
set_option linter.unusedVariables false
set_option linter.unusedSimpArgs false
attribute [local go_sem] Ext.cell


set_option maxHeartbeats 400000 in
theorem szIntS_c (x : List Int) (u : Value) (lo : Nat) (left : Int) (h0 : 0 ≤ left) (h1 : left ≤ 1048576) (w : World) (hx : Sl IntR 1 lo w u x) :
    Calls Tryz.prog 62 #[u, .int .i64 left] w fun e w' => ∃ n, e = .returned (.int .i64 n) ∧ SzPost (x.length : Int) left n ∧ Below w.heap.size w w' := by
  obtain ⟨a1, c1, rfl, l1, m1, hh⟩ := hx
  go_enter Tryz.func62, Tryz.ntmps62
  go_wp2
  all_goals (go_returns; refine ⟨_, rfl, ?_, Below.refl _ _⟩; simp [SzPost]; omega)


set_option maxHeartbeats 1000000 in
theorem szPNode_c (x : GPNode) (r : List Value) (lo : Nat) (left : Int) (h0 : 0 ≤ left) (h1 : left ≤ 1048576) (w : World) (hx : GPNode.R lo w r x) :
    Calls Tryz.prog 151 #[.agg r.toArray, .int .i64 left] w fun e w' => ∃ n, e = .returned (.int .i64 n) ∧ SzPost x.bulk left n ∧ Below w.heap.size w w' := by
  obtain ⟨x0, x1, x2, x3⟩ := x
  obtain ⟨u0, rfl, ⟨wx0, wx1, wx2⟩, a0⟩ := hx
  dsimp only at *
  have z2 : x2.size ≤ 9223372036854775807 := wx2
  have z3 := length_nonneg x3
  go_enter Tryz.func151, Tryz.ntmps151
  go_wp2_with (first | (go_at_call 62; ((with_reducible refine (szIntS_c x3 u0 lo _ ?_ ?_ _ ?_).mono ?_); omega; omega; exact a0.below IntR.good (by go_grown); rintro e w1 ⟨n1, rfl, (⟨g1, rfl⟩ | ⟨g1, rfl⟩), hb⟩ <;> (have hw : Below w.heap.size w w1 := Below.trans (by go_grown) (hb.mono (by go_grown)); obtain ⟨hc, hf⟩ := bcell hb; have hz := hw.size; have hz1 := hb.size; have hs0 : w.heap.size < w1.heap.size := (by have h := hz1; (try simp only [World.size_alloc, World.size_setCell, World.size_drew] at h); omega); clear hb))))
  all_goals (go_returns; refine ⟨_, rfl, ?_, by go_grown⟩; (first | ((refine Or.inl ⟨?_, ?_⟩) <;> simp only [GPNode.bulk] at * <;> omega) | (refine Or.inr ⟨?_, rfl⟩; simp only [GPNode.bulk] at *; omega)))


set_option maxHeartbeats 1000000 in
theorem szPNodeS_c (x : List GPNode) (u : Value) (lo : Nat) (left : Int) (h0 : 0 ≤ left) (h1 : left ≤ 1048576) (w : World) (hx : Sl GPNode.R 4 lo w u x) :
    Calls Tryz.prog 125 #[u, .int .i64 left] w fun e w' => ∃ n, e = .returned (.int .i64 n) ∧ SzPost (bulkS GPNode.bulk x) left n ∧ Below w.heap.size w w' := by
  obtain ⟨a1, c1, rfl, l1, m1, hh⟩ := hx
  obtain ⟨n, hn⟩ : ∃ n, n = x.length := ⟨_, rfl⟩
  rw [← hn] at l1 ⊢
  have X1 := Lib.hid hn
  clear hn
  have S0 := sum_nonneg GPNode.bulk_nonneg x
  by_cases hl : left < n
  · clear S0
    go_enter Tryz.func125, Tryz.ntmps125
    go_wp2
    go_returns
    refine ⟨_, rfl, .inr ⟨?_, rfl⟩, Below.refl _ _⟩
    have D := X1.out
    have S0 := sum_nonneg GPNode.bulk_nonneg x
    unfold bulkS
    omega
  · clear S0
    go_enter Tryz.func125, Tryz.ntmps125
    go_wp2_with fail
    go_loopw [1, 5] (fun l i wr => ∃ (k : Nat) (L : Int), k ≤ n ∧ i = .int .i64 k ∧ l = .int .i64 L ∧ 0 ≤ L ∧ L ≤ 1048576 ∧ Hid (L = left - n - ((x.take k).map GPNode.bulk).sum) ∧ Below w.heap.size w wr) (fun _ i _ => n - (intOf i).toNat)
    case atStart => exact ⟨0, left - n, by omega, rfl, rfl, by omega, by omega, by show _ = _; simp, Below.refl _ _⟩
    case round =>
      obtain ⟨k, L, hk, rfl, rfl, hL0, hL1, hL, hw⟩ := hrel
      by_cases hlt : k < n
      · obtain ⟨b1, o1, p, s1, _, rfl, P1, q1, r1⟩ := (hh.below GPNode.good hw).get X1 hlt
        have Q1 := q1
        obtain ⟨s0, rfl, _⟩ := q1
        have R1 : wr.cell? ⟨b1, o1 + k * 4, none⟩ = some (.int .i64 p.kind) ∧ wr.cell? ⟨b1, o1 + k * 4 + 1, none⟩ = some (.int .i64 p.n) ∧ wr.cell? ⟨b1, o1 + k * 4 + 2, none⟩ = some (.string p.s) ∧ wr.cell? ⟨b1, o1 + k * 4 + 3, none⟩ = some (s0) := ⟨by simpa using r1 0 _ rfl, by simpa using r1 1 _ rfl, by simpa using r1 2 _ rfl, by simpa using r1 3 _ rfl⟩
        have nb := GPNode.bulk_nonneg p
        clear r1
        go_wp2_with (go_at_call 151; refine (szPNode_c p _ _ _ (by omega) (by omega) _ Q1).mono ?_; rintro e w1 ⟨n1, rfl, (⟨g1, rfl⟩ | ⟨g1, rfl⟩), hb⟩ <;> (have hw1 := hw.trans (hb.mono hw.size); clear hb R1))
        · go_roundw
          case rel => exact ⟨k + 1, L - p.bulk, by omega, by go_num, rfl, by omega, by omega, by have E := hL.out; have B := sum_take (f := GPNode.bulk) P1.out; show _ = _; omega, hw1⟩
          case measure => simp [intOf]; omega
        · go_returns
          refine ⟨_, rfl, ?_, hw1⟩
          have E := hL.out
          have B := sum_take (f := GPNode.bulk) P1.out
          have C := sum_take_le (f := GPNode.bulk) GPNode.bulk_nonneg x (k + 1)
          have D := X1.out
          refine .inr ⟨?_, rfl⟩
          unfold bulkS
          omega
      · go_wp2
        go_returns
        refine ⟨_, rfl, .inl ?_, hw⟩
        obtain rfl : k = n := by omega
        have E := hL.out
        rw [take_full X1] at E
        have D := X1.out
        unfold bulkS
        omega


set_option maxHeartbeats 1000000 in
theorem szPat_c (x : GPat) (r : List Value) (lo : Nat) (left : Int) (h0 : 0 ≤ left) (h1 : left ≤ 1048576) (w : World) (hx : GPat.R lo w r x) :
    Calls Tryz.prog 98 #[.agg r.toArray, .int .i64 left] w fun e w' => ∃ n, e = .returned (.int .i64 n) ∧ SzPost x.bulk left n ∧ Below w.heap.size w w' := by
  obtain ⟨x0⟩ := x
  obtain ⟨u0, rfl, _, a0⟩ := hx
  dsimp only at *
  have z0 := bulkS_nonneg GPNode.bulk_nonneg x0
  go_enter Tryz.func98, Tryz.ntmps98
  go_wp2_with (first | (go_at_call 125; ((with_reducible refine (szPNodeS_c x0 u0 lo _ ?_ ?_ _ ?_).mono ?_); omega; omega; exact a0.below GPNode.good (by go_grown); rintro e w1 ⟨n1, rfl, (⟨g1, rfl⟩ | ⟨g1, rfl⟩), hb⟩ <;> (have hw : Below w.heap.size w w1 := Below.trans (by go_grown) (hb.mono (by go_grown)); obtain ⟨hc, hf⟩ := bcell hb; have hz := hw.size; have hz1 := hb.size; have hs0 : w.heap.size < w1.heap.size := (by have h := hz1; (try simp only [World.size_alloc, World.size_setCell, World.size_drew] at h); omega); clear hb))))
  all_goals (go_returns; refine ⟨_, rfl, ?_, by go_grown⟩; (first | ((refine Or.inl ⟨?_, ?_⟩) <;> simp only [GPat.bulk] at * <;> omega) | (refine Or.inr ⟨?_, rfl⟩; simp only [GPat.bulk] at *; omega)))


set_option maxHeartbeats 1000000 in
theorem szPatS_c (x : List GPat) (u : Value) (lo : Nat) (left : Int) (h0 : 0 ≤ left) (h1 : left ≤ 1048576) (w : World) (hx : Sl GPat.R 1 lo w u x) :
    Calls Tryz.prog 63 #[u, .int .i64 left] w fun e w' => ∃ n, e = .returned (.int .i64 n) ∧ SzPost (bulkS GPat.bulk x) left n ∧ Below w.heap.size w w' := by
  obtain ⟨a1, c1, rfl, l1, m1, hh⟩ := hx
  obtain ⟨n, hn⟩ : ∃ n, n = x.length := ⟨_, rfl⟩
  rw [← hn] at l1 ⊢
  have X1 := Lib.hid hn
  clear hn
  have S0 := sum_nonneg GPat.bulk_nonneg x
  by_cases hl : left < n
  · clear S0
    go_enter Tryz.func63, Tryz.ntmps63
    go_wp2
    go_returns
    refine ⟨_, rfl, .inr ⟨?_, rfl⟩, Below.refl _ _⟩
    have D := X1.out
    have S0 := sum_nonneg GPat.bulk_nonneg x
    unfold bulkS
    omega
  · clear S0
    go_enter Tryz.func63, Tryz.ntmps63
    go_wp2_with fail
    go_loopw [1, 5] (fun l i wr => ∃ (k : Nat) (L : Int), k ≤ n ∧ i = .int .i64 k ∧ l = .int .i64 L ∧ 0 ≤ L ∧ L ≤ 1048576 ∧ Hid (L = left - n - ((x.take k).map GPat.bulk).sum) ∧ Below w.heap.size w wr) (fun _ i _ => n - (intOf i).toNat)
    case atStart => exact ⟨0, left - n, by omega, rfl, rfl, by omega, by omega, by show _ = _; simp, Below.refl _ _⟩
    case round =>
      obtain ⟨k, L, hk, rfl, rfl, hL0, hL1, hL, hw⟩ := hrel
      by_cases hlt : k < n
      · obtain ⟨b1, o1, p, s1, _, rfl, P1, q1, r1⟩ := (hh.below GPat.good hw).get X1 hlt
        have Q1 := q1
        obtain ⟨s0, rfl, _⟩ := q1
        have R1 : wr.cell? ⟨b1, o1 + k, none⟩ = some (s0) := (by simpa using r1 0 _ rfl)
        have nb := GPat.bulk_nonneg p
        clear r1
        go_wp2_with (go_at_call 98; refine (szPat_c p _ _ _ (by omega) (by omega) _ Q1).mono ?_; rintro e w1 ⟨n1, rfl, (⟨g1, rfl⟩ | ⟨g1, rfl⟩), hb⟩ <;> (have hw1 := hw.trans (hb.mono hw.size); clear hb R1))
        · go_roundw
          case rel => exact ⟨k + 1, L - p.bulk, by omega, by go_num, rfl, by omega, by omega, by have E := hL.out; have B := sum_take (f := GPat.bulk) P1.out; show _ = _; omega, hw1⟩
          case measure => simp [intOf]; omega
        · go_returns
          refine ⟨_, rfl, ?_, hw1⟩
          have E := hL.out
          have B := sum_take (f := GPat.bulk) P1.out
          have C := sum_take_le (f := GPat.bulk) GPat.bulk_nonneg x (k + 1)
          have D := X1.out
          refine .inr ⟨?_, rfl⟩
          unfold bulkS
          omega
      · go_wp2
        go_returns
        refine ⟨_, rfl, .inl ?_, hw⟩
        obtain rfl : k = n := by omega
        have E := hL.out
        rw [take_full X1] at E
        have D := X1.out
        unfold bulkS
        omega


set_option maxHeartbeats 1000000 in
theorem szTyItem_c (x : GTyItem) (r : List Value) (lo : Nat) (left : Int) (h0 : 0 ≤ left) (h1 : left ≤ 1048576) (w : World) (hx : GTyItem.R lo w r x) :
    Calls Tryz.prog 171 #[.agg r.toArray, .int .i64 left] w fun e w' => ∃ n, e = .returned (.int .i64 n) ∧ SzPost x.bulk left n ∧ Below w.heap.size w w' := by
  obtain ⟨x0, x1, x2⟩ := x
  obtain ⟨rfl, ⟨wx0, wx1, wx2⟩⟩ := hx
  dsimp only at *
  have z1 : x1.size ≤ 9223372036854775807 := wx1
  go_enter Tryz.func171, Tryz.ntmps171
  go_wp2
  all_goals (go_returns; refine ⟨_, rfl, ?_, by go_grown⟩; (first | ((refine Or.inl ⟨?_, ?_⟩) <;> simp only [GTyItem.bulk] at * <;> omega) | (refine Or.inr ⟨?_, rfl⟩; simp only [GTyItem.bulk] at *; omega)))


set_option maxHeartbeats 1000000 in
theorem szTyItemS_c (x : List GTyItem) (u : Value) (lo : Nat) (left : Int) (h0 : 0 ≤ left) (h1 : left ≤ 1048576) (w : World) (hx : Sl GTyItem.R 3 lo w u x) :
    Calls Tryz.prog 150 #[u, .int .i64 left] w fun e w' => ∃ n, e = .returned (.int .i64 n) ∧ SzPost (bulkS GTyItem.bulk x) left n ∧ Below w.heap.size w w' := by
  obtain ⟨a1, c1, rfl, l1, m1, hh⟩ := hx
  obtain ⟨n, hn⟩ : ∃ n, n = x.length := ⟨_, rfl⟩
  rw [← hn] at l1 ⊢
  have X1 := Lib.hid hn
  clear hn
  have S0 := sum_nonneg GTyItem.bulk_nonneg x
  by_cases hl : left < n
  · clear S0
    go_enter Tryz.func150, Tryz.ntmps150
    go_wp2
    go_returns
    refine ⟨_, rfl, .inr ⟨?_, rfl⟩, Below.refl _ _⟩
    have D := X1.out
    have S0 := sum_nonneg GTyItem.bulk_nonneg x
    unfold bulkS
    omega
  · clear S0
    go_enter Tryz.func150, Tryz.ntmps150
    go_wp2_with fail
    go_loopw [1, 5] (fun l i wr => ∃ (k : Nat) (L : Int), k ≤ n ∧ i = .int .i64 k ∧ l = .int .i64 L ∧ 0 ≤ L ∧ L ≤ 1048576 ∧ Hid (L = left - n - ((x.take k).map GTyItem.bulk).sum) ∧ Below w.heap.size w wr) (fun _ i _ => n - (intOf i).toNat)
    case atStart => exact ⟨0, left - n, by omega, rfl, rfl, by omega, by omega, by show _ = _; simp, Below.refl _ _⟩
    case round =>
      obtain ⟨k, L, hk, rfl, rfl, hL0, hL1, hL, hw⟩ := hrel
      by_cases hlt : k < n
      · obtain ⟨b1, o1, p, s1, _, rfl, P1, q1, r1⟩ := (hh.below GTyItem.good hw).get X1 hlt
        have Q1 := q1
        obtain ⟨rfl, _⟩ := q1
        have R1 : wr.cell? ⟨b1, o1 + k * 3, none⟩ = some (.int .i64 p.var) ∧ wr.cell? ⟨b1, o1 + k * 3 + 1, none⟩ = some (.string p.name) ∧ wr.cell? ⟨b1, o1 + k * 3 + 2, none⟩ = some (.int .i64 p.arity) := ⟨by simpa using r1 0 _ rfl, by simpa using r1 1 _ rfl, by simpa using r1 2 _ rfl⟩
        have nb := GTyItem.bulk_nonneg p
        clear r1
        go_wp2_with (go_at_call 171; refine (szTyItem_c p _ _ _ (by omega) (by omega) _ Q1).mono ?_; rintro e w1 ⟨n1, rfl, (⟨g1, rfl⟩ | ⟨g1, rfl⟩), hb⟩ <;> (have hw1 := hw.trans (hb.mono hw.size); clear hb R1))
        · go_roundw
          case rel => exact ⟨k + 1, L - p.bulk, by omega, by go_num, rfl, by omega, by omega, by have E := hL.out; have B := sum_take (f := GTyItem.bulk) P1.out; show _ = _; omega, hw1⟩
          case measure => simp [intOf]; omega
        · go_returns
          refine ⟨_, rfl, ?_, hw1⟩
          have E := hL.out
          have B := sum_take (f := GTyItem.bulk) P1.out
          have C := sum_take_le (f := GTyItem.bulk) GTyItem.bulk_nonneg x (k + 1)
          have D := X1.out
          refine .inr ⟨?_, rfl⟩
          unfold bulkS
          omega
      · go_wp2
        go_returns
        refine ⟨_, rfl, .inl ?_, hw⟩
        obtain rfl : k = n := by omega
        have E := hL.out
        rw [take_full X1] at E
        have D := X1.out
        unfold bulkS
        omega


set_option maxHeartbeats 1000000 in
theorem szTy_c (x : GTy) (r : List Value) (lo : Nat) (left : Int) (h0 : 0 ≤ left) (h1 : left ≤ 1048576) (w : World) (hx : GTy.R lo w r x) :
    Calls Tryz.prog 124 #[.agg r.toArray, .int .i64 left] w fun e w' => ∃ n, e = .returned (.int .i64 n) ∧ SzPost x.bulk left n ∧ Below w.heap.size w w' := by
  obtain ⟨x0⟩ := x
  obtain ⟨u0, rfl, _, a0⟩ := hx
  dsimp only at *
  have z0 := bulkS_nonneg GTyItem.bulk_nonneg x0
  go_enter Tryz.func124, Tryz.ntmps124
  go_wp2_with (first | (go_at_call 150; ((with_reducible refine (szTyItemS_c x0 u0 lo _ ?_ ?_ _ ?_).mono ?_); omega; omega; exact a0.below GTyItem.good (by go_grown); rintro e w1 ⟨n1, rfl, (⟨g1, rfl⟩ | ⟨g1, rfl⟩), hb⟩ <;> (have hw : Below w.heap.size w w1 := Below.trans (by go_grown) (hb.mono (by go_grown)); obtain ⟨hc, hf⟩ := bcell hb; have hz := hw.size; have hz1 := hb.size; have hs0 : w.heap.size < w1.heap.size := (by have h := hz1; (try simp only [World.size_alloc, World.size_setCell, World.size_drew] at h); omega); clear hb))))
  all_goals (go_returns; refine ⟨_, rfl, ?_, by go_grown⟩; (first | ((refine Or.inl ⟨?_, ?_⟩) <;> simp only [GTy.bulk] at * <;> omega) | (refine Or.inr ⟨?_, rfl⟩; simp only [GTy.bulk] at *; omega)))


set_option maxHeartbeats 1000000 in
theorem szCon_c (x : GCon) (r : List Value) (lo : Nat) (left : Int) (h0 : 0 ≤ left) (h1 : left ≤ 1048576) (w : World) (hx : GCon.R lo w r x) :
    Calls Tryz.prog 97 #[.agg r.toArray, .int .i64 left] w fun e w' => ∃ n, e = .returned (.int .i64 n) ∧ SzPost x.bulk left n ∧ Below w.heap.size w w' := by
  obtain ⟨x0, x1, ⟨x2⟩⟩ := x
  obtain ⟨u0, rfl, wx0, a0⟩ := hx
  dsimp only at *
  have z0 : x0.size ≤ 9223372036854775807 := wx0
  have z2 := GTy.bulk_nonneg (⟨x2⟩ : GTy)
  go_enter Tryz.func97, Tryz.ntmps97
  go_wp2_with (first | (go_at_call 124; ((with_reducible refine (szTy_c (⟨x2⟩ : GTy) _ lo _ ?_ ?_ _ ?_).mono ?_); omega; omega; exact ⟨u0, rfl, trivial, (a0.below GTyItem.good (by go_grown))⟩; rintro e w1 ⟨n1, rfl, (⟨g1, rfl⟩ | ⟨g1, rfl⟩), hb⟩ <;> (have hw : Below w.heap.size w w1 := Below.trans (by go_grown) (hb.mono (by go_grown)); obtain ⟨hc, hf⟩ := bcell hb; have hz := hw.size; have hz1 := hb.size; have hs0 : w.heap.size < w1.heap.size := (by have h := hz1; (try simp only [World.size_alloc, World.size_setCell, World.size_drew] at h); omega); clear hb))))
  all_goals (go_returns; refine ⟨_, rfl, ?_, by go_grown⟩; (first | ((refine Or.inl ⟨?_, ?_⟩) <;> simp only [GCon.bulk, GTy.bulk] at * <;> omega) | (refine Or.inr ⟨?_, rfl⟩; simp only [GCon.bulk, GTy.bulk] at *; omega)))


set_option maxHeartbeats 1000000 in
theorem szConS_c (x : List GCon) (u : Value) (lo : Nat) (left : Int) (h0 : 0 ≤ left) (h1 : left ≤ 1048576) (w : World) (hx : Sl GCon.R 3 lo w u x) :
    Calls Tryz.prog 61 #[u, .int .i64 left] w fun e w' => ∃ n, e = .returned (.int .i64 n) ∧ SzPost (bulkS GCon.bulk x) left n ∧ Below w.heap.size w w' := by
  obtain ⟨a1, c1, rfl, l1, m1, hh⟩ := hx
  obtain ⟨n, hn⟩ : ∃ n, n = x.length := ⟨_, rfl⟩
  rw [← hn] at l1 ⊢
  have X1 := Lib.hid hn
  clear hn
  have S0 := sum_nonneg GCon.bulk_nonneg x
  by_cases hl : left < n
  · clear S0
    go_enter Tryz.func61, Tryz.ntmps61
    go_wp2
    go_returns
    refine ⟨_, rfl, .inr ⟨?_, rfl⟩, Below.refl _ _⟩
    have D := X1.out
    have S0 := sum_nonneg GCon.bulk_nonneg x
    unfold bulkS
    omega
  · clear S0
    go_enter Tryz.func61, Tryz.ntmps61
    go_wp2_with fail
    go_loopw [1, 5] (fun l i wr => ∃ (k : Nat) (L : Int), k ≤ n ∧ i = .int .i64 k ∧ l = .int .i64 L ∧ 0 ≤ L ∧ L ≤ 1048576 ∧ Hid (L = left - n - ((x.take k).map GCon.bulk).sum) ∧ Below w.heap.size w wr) (fun _ i _ => n - (intOf i).toNat)
    case atStart => exact ⟨0, left - n, by omega, rfl, rfl, by omega, by omega, by show _ = _; simp, Below.refl _ _⟩
    case round =>
      obtain ⟨k, L, hk, rfl, rfl, hL0, hL1, hL, hw⟩ := hrel
      by_cases hlt : k < n
      · obtain ⟨b1, o1, p, s1, _, rfl, P1, q1, r1⟩ := (hh.below GCon.good hw).get X1 hlt
        have Q1 := q1
        obtain ⟨s0, rfl, _⟩ := q1
        have R1 : wr.cell? ⟨b1, o1 + k * 3, none⟩ = some (.string p.name) ∧ wr.cell? ⟨b1, o1 + k * 3 + 1, none⟩ = some (.bool p.has) ∧ wr.cell? ⟨b1, o1 + k * 3 + 2, none⟩ = some (s0) := ⟨by simpa using r1 0 _ rfl, by simpa using r1 1 _ rfl, by simpa using r1 2 _ rfl⟩
        have nb := GCon.bulk_nonneg p
        clear r1
        go_wp2_with (go_at_call 97; refine (szCon_c p _ _ _ (by omega) (by omega) _ Q1).mono ?_; rintro e w1 ⟨n1, rfl, (⟨g1, rfl⟩ | ⟨g1, rfl⟩), hb⟩ <;> (have hw1 := hw.trans (hb.mono hw.size); clear hb R1))
        · go_roundw
          case rel => exact ⟨k + 1, L - p.bulk, by omega, by go_num, rfl, by omega, by omega, by have E := hL.out; have B := sum_take (f := GCon.bulk) P1.out; show _ = _; omega, hw1⟩
          case measure => simp [intOf]; omega
        · go_returns
          refine ⟨_, rfl, ?_, hw1⟩
          have E := hL.out
          have B := sum_take (f := GCon.bulk) P1.out
          have C := sum_take_le (f := GCon.bulk) GCon.bulk_nonneg x (k + 1)
          have D := X1.out
          refine .inr ⟨?_, rfl⟩
          unfold bulkS
          omega
      · go_wp2
        go_returns
        refine ⟨_, rfl, .inl ?_, hw⟩
        obtain rfl : k = n := by omega
        have E := hL.out
        rw [take_full X1] at E
        have D := X1.out
        unfold bulkS
        omega


set_option maxHeartbeats 1000000 in
theorem szType_c (x : GType) (r : List Value) (lo : Nat) (left : Int) (h0 : 0 ≤ left) (h1 : left ≤ 1048576) (w : World) (hx : GType.R lo w r x) :
    Calls Tryz.prog 32 #[.agg r.toArray, .int .i64 left] w fun e w' => ∃ n, e = .returned (.int .i64 n) ∧ SzPost x.bulk left n ∧ Below w.heap.size w w' := by
  obtain ⟨x0, x1, x2⟩ := x
  obtain ⟨u0, rfl, ⟨wx0, wx1⟩, a0⟩ := hx
  dsimp only at *
  have z0 : x0.size ≤ 9223372036854775807 := wx0
  have z2 := bulkS_nonneg GCon.bulk_nonneg x2
  go_enter Tryz.func32, Tryz.ntmps32
  go_wp2_with (first | (go_at_call 61; ((with_reducible refine (szConS_c x2 u0 lo _ ?_ ?_ _ ?_).mono ?_); omega; omega; exact a0.below GCon.good (by go_grown); rintro e w1 ⟨n1, rfl, (⟨g1, rfl⟩ | ⟨g1, rfl⟩), hb⟩ <;> (have hw : Below w.heap.size w w1 := Below.trans (by go_grown) (hb.mono (by go_grown)); obtain ⟨hc, hf⟩ := bcell hb; have hz := hw.size; have hz1 := hb.size; have hs0 : w.heap.size < w1.heap.size := (by have h := hz1; (try simp only [World.size_alloc, World.size_setCell, World.size_drew] at h); omega); clear hb))))
  all_goals (go_returns; refine ⟨_, rfl, ?_, by go_grown⟩; (first | ((refine Or.inl ⟨?_, ?_⟩) <;> simp only [GType.bulk] at * <;> omega) | (refine Or.inr ⟨?_, rfl⟩; simp only [GType.bulk] at *; omega)))


set_option maxHeartbeats 1000000 in
theorem szTypeS_c (x : List GType) (u : Value) (lo : Nat) (left : Int) (h0 : 0 ≤ left) (h1 : left ≤ 1048576) (w : World) (hx : Sl GType.R 3 lo w u x) :
    Calls Tryz.prog 13 #[u, .int .i64 left] w fun e w' => ∃ n, e = .returned (.int .i64 n) ∧ SzPost (bulkS GType.bulk x) left n ∧ Below w.heap.size w w' := by
  obtain ⟨a1, c1, rfl, l1, m1, hh⟩ := hx
  obtain ⟨n, hn⟩ : ∃ n, n = x.length := ⟨_, rfl⟩
  rw [← hn] at l1 ⊢
  have X1 := Lib.hid hn
  clear hn
  have S0 := sum_nonneg GType.bulk_nonneg x
  by_cases hl : left < n
  · clear S0
    go_enter Tryz.func13, Tryz.ntmps13
    go_wp2
    go_returns
    refine ⟨_, rfl, .inr ⟨?_, rfl⟩, Below.refl _ _⟩
    have D := X1.out
    have S0 := sum_nonneg GType.bulk_nonneg x
    unfold bulkS
    omega
  · clear S0
    go_enter Tryz.func13, Tryz.ntmps13
    go_wp2_with fail
    go_loopw [1, 5] (fun l i wr => ∃ (k : Nat) (L : Int), k ≤ n ∧ i = .int .i64 k ∧ l = .int .i64 L ∧ 0 ≤ L ∧ L ≤ 1048576 ∧ Hid (L = left - n - ((x.take k).map GType.bulk).sum) ∧ Below w.heap.size w wr) (fun _ i _ => n - (intOf i).toNat)
    case atStart => exact ⟨0, left - n, by omega, rfl, rfl, by omega, by omega, by show _ = _; simp, Below.refl _ _⟩
    case round =>
      obtain ⟨k, L, hk, rfl, rfl, hL0, hL1, hL, hw⟩ := hrel
      by_cases hlt : k < n
      · obtain ⟨b1, o1, p, s1, _, rfl, P1, q1, r1⟩ := (hh.below GType.good hw).get X1 hlt
        have Q1 := q1
        obtain ⟨s0, rfl, _⟩ := q1
        have R1 : wr.cell? ⟨b1, o1 + k * 3, none⟩ = some (.string p.name) ∧ wr.cell? ⟨b1, o1 + k * 3 + 1, none⟩ = some (.int .i64 p.params) ∧ wr.cell? ⟨b1, o1 + k * 3 + 2, none⟩ = some (s0) := ⟨by simpa using r1 0 _ rfl, by simpa using r1 1 _ rfl, by simpa using r1 2 _ rfl⟩
        have nb := GType.bulk_nonneg p
        clear r1
        go_wp2_with (go_at_call 32; refine (szType_c p _ _ _ (by omega) (by omega) _ Q1).mono ?_; rintro e w1 ⟨n1, rfl, (⟨g1, rfl⟩ | ⟨g1, rfl⟩), hb⟩ <;> (have hw1 := hw.trans (hb.mono hw.size); clear hb R1))
        · go_roundw
          case rel => exact ⟨k + 1, L - p.bulk, by omega, by go_num, rfl, by omega, by omega, by have E := hL.out; have B := sum_take (f := GType.bulk) P1.out; show _ = _; omega, hw1⟩
          case measure => simp [intOf]; omega
        · go_returns
          refine ⟨_, rfl, ?_, hw1⟩
          have E := hL.out
          have B := sum_take (f := GType.bulk) P1.out
          have C := sum_take_le (f := GType.bulk) GType.bulk_nonneg x (k + 1)
          have D := X1.out
          refine .inr ⟨?_, rfl⟩
          unfold bulkS
          omega
      · go_wp2
        go_returns
        refine ⟨_, rfl, .inl ?_, hw⟩
        obtain rfl : k = n := by omega
        have E := hL.out
        rw [take_full X1] at E
        have D := X1.out
        unfold bulkS
        omega


set_option maxHeartbeats 1000000 in
theorem szNode_c (x : GNode) (r : List Value) (lo : Nat) (left : Int) (h0 : 0 ≤ left) (h1 : left ≤ 1048576) (w : World) (hx : GNode.R lo w r x) :
    Calls Tryz.prog 33 #[.agg r.toArray, .int .i64 left] w fun e w' => ∃ n, e = .returned (.int .i64 n) ∧ SzPost x.bulk left n ∧ Below w.heap.size w w' := by
  obtain ⟨x0, x1, x2, x3, x4, x5⟩ := x
  obtain ⟨u0, u1, rfl, ⟨wx0, wx1, wx2, wx3⟩, a0, a1⟩ := hx
  dsimp only at *
  have z3 : x3.size ≤ 9223372036854775807 := wx3
  have z4 := length_nonneg x4
  have z5 := bulkS_nonneg GPat.bulk_nonneg x5
  go_enter Tryz.func33, Tryz.ntmps33
  go_wp2_with (first | (go_at_call 62; ((with_reducible refine (szIntS_c x4 u0 lo _ ?_ ?_ _ ?_).mono ?_); omega; omega; exact a0.below IntR.good (by go_grown); rintro e w1 ⟨n1, rfl, (⟨g1, rfl⟩ | ⟨g1, rfl⟩), hb⟩ <;> (have hw : Below w.heap.size w w1 := Below.trans (by go_grown) (hb.mono (by go_grown)); obtain ⟨hc, hf⟩ := bcell hb; have hz := hw.size; have hz1 := hb.size; have hs0 : w.heap.size < w1.heap.size := (by have h := hz1; (try simp only [World.size_alloc, World.size_setCell, World.size_drew] at h); omega); clear hb))) | (go_at_call 63; ((with_reducible refine (szPatS_c x5 u1 lo _ ?_ ?_ _ ?_).mono ?_); omega; omega; exact a1.below GPat.good (by go_grown); rintro e w1 ⟨n1, rfl, (⟨g1, rfl⟩ | ⟨g1, rfl⟩), hb⟩ <;> (have hw : Below w.heap.size w w1 := Below.trans (by go_grown) (hb.mono (by go_grown)); obtain ⟨hc, hf⟩ := bcell hb; have hz := hw.size; have hz1 := hb.size; have hs0 : w.heap.size < w1.heap.size := (by have h := hz1; (try simp only [World.size_alloc, World.size_setCell, World.size_drew] at h); omega); clear hb))))
  all_goals (go_returns; refine ⟨_, rfl, ?_, by go_grown⟩; (first | ((refine Or.inl ⟨?_, ?_⟩) <;> simp only [GNode.bulk] at * <;> omega) | (refine Or.inr ⟨?_, rfl⟩; simp only [GNode.bulk] at *; omega)))


set_option maxHeartbeats 1000000 in
theorem szNodeS_c (x : List GNode) (u : Value) (lo : Nat) (left : Int) (h0 : 0 ≤ left) (h1 : left ≤ 1048576) (w : World) (hx : Sl GNode.R 6 lo w u x) :
    Calls Tryz.prog 14 #[u, .int .i64 left] w fun e w' => ∃ n, e = .returned (.int .i64 n) ∧ SzPost (bulkS GNode.bulk x) left n ∧ Below w.heap.size w w' := by
  obtain ⟨a1, c1, rfl, l1, m1, hh⟩ := hx
  obtain ⟨n, hn⟩ : ∃ n, n = x.length := ⟨_, rfl⟩
  rw [← hn] at l1 ⊢
  have X1 := Lib.hid hn
  clear hn
  have S0 := sum_nonneg GNode.bulk_nonneg x
  by_cases hl : left < n
  · clear S0
    go_enter Tryz.func14, Tryz.ntmps14
    go_wp2
    go_returns
    refine ⟨_, rfl, .inr ⟨?_, rfl⟩, Below.refl _ _⟩
    have D := X1.out
    have S0 := sum_nonneg GNode.bulk_nonneg x
    unfold bulkS
    omega
  · clear S0
    go_enter Tryz.func14, Tryz.ntmps14
    go_wp2_with fail
    go_loopw [1, 5] (fun l i wr => ∃ (k : Nat) (L : Int), k ≤ n ∧ i = .int .i64 k ∧ l = .int .i64 L ∧ 0 ≤ L ∧ L ≤ 1048576 ∧ Hid (L = left - n - ((x.take k).map GNode.bulk).sum) ∧ Below w.heap.size w wr) (fun _ i _ => n - (intOf i).toNat)
    case atStart => exact ⟨0, left - n, by omega, rfl, rfl, by omega, by omega, by show _ = _; simp, Below.refl _ _⟩
    case round =>
      obtain ⟨k, L, hk, rfl, rfl, hL0, hL1, hL, hw⟩ := hrel
      by_cases hlt : k < n
      · obtain ⟨b1, o1, p, s1, _, rfl, P1, q1, r1⟩ := (hh.below GNode.good hw).get X1 hlt
        have Q1 := q1
        obtain ⟨s0, s1, rfl, _⟩ := q1
        have R1 : wr.cell? ⟨b1, o1 + k * 6, none⟩ = some (.int .i64 p.kind) ∧ wr.cell? ⟨b1, o1 + k * 6 + 1, none⟩ = some (.int .i64 p.at_) ∧ wr.cell? ⟨b1, o1 + k * 6 + 2, none⟩ = some (.int .i64 p.n) ∧ wr.cell? ⟨b1, o1 + k * 6 + 3, none⟩ = some (.string p.s) ∧ wr.cell? ⟨b1, o1 + k * 6 + 4, none⟩ = some (s0) ∧ wr.cell? ⟨b1, o1 + k * 6 + 5, none⟩ = some (s1) := ⟨by simpa using r1 0 _ rfl, by simpa using r1 1 _ rfl, by simpa using r1 2 _ rfl, by simpa using r1 3 _ rfl, by simpa using r1 4 _ rfl, by simpa using r1 5 _ rfl⟩
        have nb := GNode.bulk_nonneg p
        clear r1
        go_wp2_with (go_at_call 33; refine (szNode_c p _ _ _ (by omega) (by omega) _ Q1).mono ?_; rintro e w1 ⟨n1, rfl, (⟨g1, rfl⟩ | ⟨g1, rfl⟩), hb⟩ <;> (have hw1 := hw.trans (hb.mono hw.size); clear hb R1))
        · go_roundw
          case rel => exact ⟨k + 1, L - p.bulk, by omega, by go_num, rfl, by omega, by omega, by have E := hL.out; have B := sum_take (f := GNode.bulk) P1.out; show _ = _; omega, hw1⟩
          case measure => simp [intOf]; omega
        · go_returns
          refine ⟨_, rfl, ?_, hw1⟩
          have E := hL.out
          have B := sum_take (f := GNode.bulk) P1.out
          have C := sum_take_le (f := GNode.bulk) GNode.bulk_nonneg x (k + 1)
          have D := X1.out
          refine .inr ⟨?_, rfl⟩
          unfold bulkS
          omega
      · go_wp2
        go_returns
        refine ⟨_, rfl, .inl ?_, hw⟩
        obtain rfl : k = n := by omega
        have E := hL.out
        rw [take_full X1] at E
        have D := X1.out
        unfold bulkS
        omega


set_option maxHeartbeats 1000000 in
theorem szProgram_c (x : GProgram) (r : List Value) (lo : Nat) (left : Int) (h0 : 0 ≤ left) (h1 : left ≤ 1048576) (w : World) (hx : GProgram.R lo w r x) :
    Calls Tryz.prog 4 #[.agg r.toArray, .int .i64 left] w fun e w' => ∃ n, e = .returned (.int .i64 n) ∧ SzPost x.bulk left n ∧ Below w.heap.size w w' := by
  obtain ⟨x0, x1⟩ := x
  obtain ⟨u0, u1, rfl, _, a0, a1⟩ := hx
  dsimp only at *
  have z0 := bulkS_nonneg GType.bulk_nonneg x0
  have z1 := bulkS_nonneg GNode.bulk_nonneg x1
  go_enter Tryz.func4, Tryz.ntmps4
  go_wp2_with (first | (go_at_call 13; ((with_reducible refine (szTypeS_c x0 u0 lo _ ?_ ?_ _ ?_).mono ?_); omega; omega; exact a0.below GType.good (by go_grown); rintro e w1 ⟨n1, rfl, (⟨g1, rfl⟩ | ⟨g1, rfl⟩), hb⟩ <;> (have hw : Below w.heap.size w w1 := Below.trans (by go_grown) (hb.mono (by go_grown)); obtain ⟨hc, hf⟩ := bcell hb; have hz := hw.size; have hz1 := hb.size; have hs0 : w.heap.size < w1.heap.size := (by have h := hz1; (try simp only [World.size_alloc, World.size_setCell, World.size_drew] at h); omega); clear hb))) | (go_at_call 14; ((with_reducible refine (szNodeS_c x1 u1 lo _ ?_ ?_ _ ?_).mono ?_); omega; omega; exact a1.below GNode.good (by go_grown); rintro e w1 ⟨n1, rfl, (⟨g1, rfl⟩ | ⟨g1, rfl⟩), hb⟩ <;> (have hw : Below w.heap.size w w1 := Below.trans (by go_grown) (hb.mono (by go_grown)); obtain ⟨hc, hf⟩ := bcell hb; have hz := hw.size; have hz1 := hb.size; have hs0 : w.heap.size < w1.heap.size := (by have h := hz1; (try simp only [World.size_alloc, World.size_setCell, World.size_drew] at h); omega); clear hb))))
  all_goals (go_returns; refine ⟨_, rfl, ?_, by go_grown⟩; (first | ((refine Or.inl ⟨?_, ?_⟩) <;> simp only [GProgram.bulk] at * <;> omega) | (refine Or.inr ⟨?_, rfl⟩; simp only [GProgram.bulk] at *; omega)))


end Go.Proofs.YtaimekaagmcmnaaGreat
