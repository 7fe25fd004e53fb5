/- Parts of the proof, merged: To, Within. -/
import Derived.Test.YtklfepnokidnaaaRows
import Derived.Test.YtklfepnokidnaaaSc4
/- The walks of the to functions: a copy in memory of its own. Printed by gen_helpers.py. -/
namespace Go.Proofs.Ytklfepnokidnaaa
open Go.RowKit
set_option linter.unusedVariables false
set_option linter.unusedSimpArgs false
attribute [local go_sem] Ext.cell


theorem info_IntS : (Try.prog.info? 3).map (fun i => (i.zero, i.size, i.bytes)) = some (some (.int .i64 0), 1, 8) := by kernel_rfl

set_option maxHeartbeats 1000000 in
theorem toIntS_c (x : List Int) (u : Value) (lo : Nat) (hlen : (x.length : Int) ≤ 1048576) (w : World) (hx : Sl IntR 1 lo w u x) :
    Calls Try.prog 85 #[u] w fun e w' => ∃ v, e = .returned v ∧ Sl IntR 1 w.heap.size w' v x ∧ Below w.heap.size w w' := by
  obtain ⟨a1, c1, rfl, l1, m1, hh⟩ := hx
  obtain ⟨n, hn⟩ : ∃ n, n = x.length := ⟨_, rfl⟩
  have hlen1 : x.length ≤ 1048576 := by omega
  clear hlen
  rw [← hn] at l1 hlen1 ⊢
  have X1 := Lib.hid hn
  clear hn
  obtain ⟨i0, hi, hi0, hi1, hi2⟩ := info_parts info_IntS
  have I := Lib.hid hi; have I0 := Lib.hid hi0; have I1 := Lib.hid hi1; have I2 := Lib.hid hi2
  clear hi hi0 hi1 hi2
  go_enter Try.func85, Try.ntmps85
  go_wp2_with (at_make; refine wpList_makeN rfl _ _ _ rfl 3 i0 _ 1 Try.underlying70 I.out I0.out I1.out rfl n rfl rfl (by rw [I2.out]; omega) (by omega) ?_; intro w1 hb1 hs1 hA1 _hr1)
  clear _hr1
  go_loopw [4] (fun i wr => ∃ k : Nat, k ≤ n ∧ i = .int .i64 k ∧ Below w.heap.size w wr ∧ w.heap.size + 1 ≤ wr.heap.size ∧ Arr wr w.heap.size (n * 1) ∧ Filled IntR 1 wr w.heap.size k x) (fun i _ => n - (intOf i).toNat)
  case atStart => exact ⟨0, by omega, rfl, hb1, by omega, hA1, Filled.zero⟩
  case round =>
    clear hs1 hb1 hA1
    obtain ⟨k, hk, rfl, hw, hz, hA, hF⟩ := hrel
    by_cases hlt : k < n
    · obtain ⟨b1, o1, p, s1, _, rfl, P1, q1, r1⟩ := (hh.below IntR.good hw).get X1 hlt
      ·
        have Q1 := q1
        obtain ⟨rfl, _⟩ := q1
        have R1 : wr.cell? ⟨b1, o1 + k, none⟩ = some (.int .i64 p) := (by simpa using r1 0 _ rfl)
        clear r1
        have hA2 := hA; have hF2 := hF; have hw2 := hw; have hz2 : wr.heap.size ≤ wr.heap.size := Nat.le_refl _
        obtain ⟨d0, e0, f0⟩ := hA2 (k) (by omega)
        have Q3 := IntR.good.mono Q1 (Nat.zero_le _) |> fun _ => (⟨rfl, Q1.2⟩ : IntR (w.heap.size + 1) wr [.int .i64 p] p)
        go_wp2
        have S := Filled.step IntR.good hF2 hA2 hlt (off := k) (by omega) P1.out Q3 rfl
        go_roundw
        case rel => exact ⟨k + 1, by omega, by go_num, hw2.trans (below_storeRow w.heap.size [.int .i64 p] wr (k)), Nat.le_trans hz (Nat.le_trans hz2 (Nat.le_of_eq (size_storeRow w.heap.size [.int .i64 p] wr (k)).symm)), S.2, S.1⟩
        case measure => simp [intOf]; omega
    · go_wp2
      go_returns
      obtain rfl : k = n := by omega
      obtain rfl := X1.out
      exact ⟨_, rfl, hF.sl IntR.good (Nat.le_refl _) (by omega), hw⟩


set_option maxHeartbeats 1000000 in
theorem toPNode_c (x : GPNode) (r : List Value) (lo : Nat) (hl : x.bulk ≤ 1048576) (w : World) (hx : GPNode.R lo w r x) :
    Calls Try.prog 76 #[.agg r.toArray] w fun e w' => ∃ r', e = .returned (.agg r'.toArray) ∧ GPNode.R w.heap.size w' r' x ∧ Below w.heap.size w w' := by
  obtain ⟨x0, x1, x2, x3⟩ := x
  obtain ⟨u0, rfl, ⟨wx0, wx1, wx2⟩, a0⟩ := hx
  dsimp only at *
  have z2 := size_nonneg x2
  have z3 := length_nonneg x3
  simp only [GPNode.bulk] at hl
  go_enter Try.func76, Try.ntmps76
  go_wp2_with (first | (go_at_call 85; ((with_reducible refine (toIntS_c x3 u0 lo ?_ _ ?_).mono ?_); omega; exact a0.below IntR.good (by go_grown); rintro e w1 ⟨v0, rfl, c0, hb⟩; have c0 := c0.mono IntR.good (show w.heap.size + 3 ≤ _ by (try simp only [World.size_alloc, World.size_setCell, World.size_drew]); omega); obtain ⟨av0, cv0, rfl⟩ := c0.form; have hw : Below w.heap.size w w1 := Below.trans (by go_grown) (hb.mono (by go_grown)); obtain ⟨hc, hf⟩ := bcell hb; have hz := hw.size; have hz1 := hb.size; have hs0 : w.heap.size < w1.heap.size := (by have h := hz1; (try simp only [World.size_alloc, World.size_setCell, World.size_drew] at h); omega); have hs1 : w.heap.size + 1 < w1.heap.size := (by have h := hz1; (try simp only [World.size_alloc, World.size_setCell, World.size_drew] at h); omega); have hs2 : w.heap.size + 1 + 1 < w1.heap.size := (by have h := hz1; (try simp only [World.size_alloc, World.size_setCell, World.size_drew] at h); omega); clear hb)))
  refine bodyPost_ret (v := .agg #[.int .i64 x0, .int .i64 x1, .string x2, .slice av0 x3.length cv0]) (by simp [results, Try.results76, go_sem, *]) rfl ?_
  refine ⟨[.int .i64 x0, .int .i64 x1, .string x2, .slice av0 x3.length cv0], rfl, ⟨_, rfl, ⟨wx0, wx1, wx2⟩, (c0.agree IntR.good (by repeat' (first | with_reducible exact Agree.refl _ _ | with_reducible refine Agree.setCell ?_ ?_ _ | (dsimp only; omega)))).mono IntR.good (by omega)⟩, by go_grown⟩


theorem info_PNodeS : (Try.prog.info? 77).map (fun i => (i.zero, i.size, i.bytes)) = some (some (.agg #[.int .i64 0, .int .i64 0, .string ⟨#[]⟩, .slice none 0 0]), 4, 56) := by kernel_rfl

set_option maxHeartbeats 1000000 in
theorem toPNodeS_c (x : List GPNode) (u : Value) (lo : Nat) (hlen : bulkS GPNode.bulk x ≤ 1048576) (w : World) (hx : Sl GPNode.R 4 lo w u x) :
    Calls Try.prog 59 #[u] w fun e w' => ∃ v, e = .returned v ∧ Sl GPNode.R 4 w.heap.size w' v x ∧ Below w.heap.size w w' := by
  obtain ⟨a1, c1, rfl, l1, m1, hh⟩ := hx
  obtain ⟨n, hn⟩ : ∃ n, n = x.length := ⟨_, rfl⟩
  have hlen1 : x.length ≤ 1048576 := by have := length_le_bulkS (f := GPNode.bulk) GPNode.bulk_nonneg x; omega
  have hle : ∀ {k : Nat} {p : GPNode}, x[k]? = some p → GPNode.bulk p ≤ 1048576 := fun hp => by have := le_bulkS (f := GPNode.bulk) GPNode.bulk_nonneg hp; omega
  clear hlen
  rw [← hn] at l1 hlen1 ⊢
  have X1 := Lib.hid hn
  clear hn
  obtain ⟨i0, hi, hi0, hi1, hi2⟩ := info_parts info_PNodeS
  have I := Lib.hid hi; have I0 := Lib.hid hi0; have I1 := Lib.hid hi1; have I2 := Lib.hid hi2
  clear hi hi0 hi1 hi2
  go_enter Try.func59, Try.ntmps59
  go_wp2_with (at_make; refine wpList_makeN rfl _ _ _ rfl 77 i0 _ 4 Try.underlying39 I.out I0.out I1.out rfl n rfl rfl (by rw [I2.out]; omega) (by omega) ?_; intro w1 hb1 hs1 hA1 _hr1)
  clear _hr1
  go_loopw [4] (fun i wr => ∃ k : Nat, k ≤ n ∧ i = .int .i64 k ∧ Below w.heap.size w wr ∧ w.heap.size + 1 ≤ wr.heap.size ∧ Arr wr w.heap.size (n * 4) ∧ Filled GPNode.R 4 wr w.heap.size k x) (fun i _ => n - (intOf i).toNat)
  case atStart => exact ⟨0, by omega, rfl, hb1, by omega, hA1, Filled.zero⟩
  case round =>
    clear hs1 hb1 hA1
    obtain ⟨k, hk, rfl, hw, hz, hA, hF⟩ := hrel
    by_cases hlt : k < n
    · obtain ⟨b1, o1, p, s1, _, rfl, P1, q1, r1⟩ := (hh.below GPNode.good hw).get X1 hlt
      ·
        have Q1 := q1
        obtain ⟨s0, rfl, _, _⟩ := q1
        have R1 : wr.cell? ⟨b1, o1 + k * 4, none⟩ = some (.int .i64 p.kind) ∧ wr.cell? ⟨b1, o1 + k * 4 + 1, none⟩ = some (.int .i64 p.n) ∧ wr.cell? ⟨b1, o1 + k * 4 + 2, none⟩ = some (.string p.s) ∧ wr.cell? ⟨b1, o1 + k * 4 + 3, none⟩ = some (s0) := ⟨by simpa using r1 0 _ rfl, by simpa using r1 1 _ rfl, by simpa using r1 2 _ rfl, by simpa using r1 3 _ rfl⟩
        clear r1
        go_wp2_with (go_at_call 76; refine (toPNode_c p _ _ (hle P1.out) _ Q1).mono ?_; rintro e w2 ⟨r2, rfl, q3, hb2⟩; have Q3 := GPNode.good.mono q3 hz; obtain ⟨t0, rfl, -, g0⟩ := q3; obtain ⟨at0, ct0, rfl⟩ := g0.form; clear g0; have hA2 := hA.below hb2; have hF2 := hF.below GPNode.good hb2; have hw2 := hw.trans (hb2.mono hw.size); have hz2 := hb2.size; clear hb2 hw hA hF R1; obtain ⟨d0, e0, f0⟩ := hA2 (k * 4) (by omega); obtain ⟨d1, e1, f1⟩ := hA2 (k * 4 + 1) (by omega); obtain ⟨d2, e2, f2⟩ := hA2 (k * 4 + 2) (by omega); obtain ⟨d3, e3, f3⟩ := hA2 (k * 4 + 3) (by omega))
        have S := Filled.step GPNode.good hF2 hA2 hlt (off := k * 4) (by omega) P1.out Q3 rfl
        go_roundw
        case rel => exact ⟨k + 1, by omega, by go_num, hw2.trans (below_storeRow w.heap.size [.int .i64 p.kind, .int .i64 p.n, .string p.s, .slice at0 p.kids.length ct0] w2 (k * 4)), Nat.le_trans hz (Nat.le_trans hz2 (Nat.le_of_eq (size_storeRow w.heap.size [.int .i64 p.kind, .int .i64 p.n, .string p.s, .slice at0 p.kids.length ct0] w2 (k * 4)).symm)), S.2, S.1⟩
        case measure => simp [intOf]; omega
    · go_wp2
      go_returns
      obtain rfl : k = n := by omega
      obtain rfl := X1.out
      exact ⟨_, rfl, hF.sl GPNode.good (Nat.le_refl _) (by omega), hw⟩


set_option maxHeartbeats 1000000 in
theorem toPat_c (x : GPat) (r : List Value) (lo : Nat) (hl : x.bulk ≤ 1048576) (w : World) (hx : GPat.R lo w r x) :
    Calls Try.prog 32 #[.agg r.toArray] w fun e w' => ∃ r', e = .returned (.agg r'.toArray) ∧ GPat.R w.heap.size w' r' x ∧ Below w.heap.size w w' := by
  obtain ⟨x0⟩ := x
  obtain ⟨u0, rfl, _, a0⟩ := hx
  dsimp only at *
  have z0 := bulkS_nonneg GPNode.bulk_nonneg x0
  simp only [GPat.bulk] at hl
  go_enter Try.func32, Try.ntmps32
  go_wp2_with (first | (go_at_call 59; ((with_reducible refine (toPNodeS_c x0 u0 lo ?_ _ ?_).mono ?_); omega; exact a0.below GPNode.good (by go_grown); rintro e w1 ⟨v0, rfl, c0, hb⟩; have c0 := c0.mono GPNode.good (show w.heap.size + 3 ≤ _ by (try simp only [World.size_alloc, World.size_setCell, World.size_drew]); omega); obtain ⟨av0, cv0, rfl⟩ := c0.form; have hw : Below w.heap.size w w1 := Below.trans (by go_grown) (hb.mono (by go_grown)); obtain ⟨hc, hf⟩ := bcell hb; have hz := hw.size; have hz1 := hb.size; have hs0 : w.heap.size < w1.heap.size := (by have h := hz1; (try simp only [World.size_alloc, World.size_setCell, World.size_drew] at h); omega); have hs1 : w.heap.size + 1 < w1.heap.size := (by have h := hz1; (try simp only [World.size_alloc, World.size_setCell, World.size_drew] at h); omega); have hs2 : w.heap.size + 1 + 1 < w1.heap.size := (by have h := hz1; (try simp only [World.size_alloc, World.size_setCell, World.size_drew] at h); omega); clear hb)))
  refine bodyPost_ret (v := .agg #[.slice av0 x0.length cv0]) (by simp [results, Try.results32, go_sem, *]) rfl ?_
  refine ⟨[.slice av0 x0.length cv0], rfl, ⟨_, rfl, trivial, (c0.agree GPNode.good (by repeat' (first | with_reducible exact Agree.refl _ _ | with_reducible refine Agree.setCell ?_ ?_ _ | (dsimp only; omega)))).mono GPNode.good (by omega)⟩, by go_grown⟩


theorem info_PatS : (Try.prog.info? 41).map (fun i => (i.zero, i.size, i.bytes)) = some (some (.agg #[.slice none 0 0]), 1, 24) := by kernel_rfl

set_option maxHeartbeats 1000000 in
theorem toPatS_c (x : List GPat) (u : Value) (lo : Nat) (hlen : bulkS GPat.bulk x ≤ 1048576) (w : World) (hx : Sl GPat.R 1 lo w u x) :
    Calls Try.prog 15 #[u] w fun e w' => ∃ v, e = .returned v ∧ Sl GPat.R 1 w.heap.size w' v x ∧ Below w.heap.size w w' := by
  obtain ⟨a1, c1, rfl, l1, m1, hh⟩ := hx
  obtain ⟨n, hn⟩ : ∃ n, n = x.length := ⟨_, rfl⟩
  have hlen1 : x.length ≤ 1048576 := by have := length_le_bulkS (f := GPat.bulk) GPat.bulk_nonneg x; omega
  have hle : ∀ {k : Nat} {p : GPat}, x[k]? = some p → GPat.bulk p ≤ 1048576 := fun hp => by have := le_bulkS (f := GPat.bulk) GPat.bulk_nonneg hp; omega
  clear hlen
  rw [← hn] at l1 hlen1 ⊢
  have X1 := Lib.hid hn
  clear hn
  obtain ⟨i0, hi, hi0, hi1, hi2⟩ := info_parts info_PatS
  have I := Lib.hid hi; have I0 := Lib.hid hi0; have I1 := Lib.hid hi1; have I2 := Lib.hid hi2
  clear hi hi0 hi1 hi2
  go_enter Try.func15, Try.ntmps15
  go_wp2_with (at_make; refine wpList_makeN rfl _ _ _ rfl 41 i0 _ 1 Try.underlying29 I.out I0.out I1.out rfl n rfl rfl (by rw [I2.out]; omega) (by omega) ?_; intro w1 hb1 hs1 hA1 _hr1)
  clear _hr1
  go_loopw [4] (fun i wr => ∃ k : Nat, k ≤ n ∧ i = .int .i64 k ∧ Below w.heap.size w wr ∧ w.heap.size + 1 ≤ wr.heap.size ∧ Arr wr w.heap.size (n * 1) ∧ Filled GPat.R 1 wr w.heap.size k x) (fun i _ => n - (intOf i).toNat)
  case atStart => exact ⟨0, by omega, rfl, hb1, by omega, hA1, Filled.zero⟩
  case round =>
    clear hs1 hb1 hA1
    obtain ⟨k, hk, rfl, hw, hz, hA, hF⟩ := hrel
    by_cases hlt : k < n
    · obtain ⟨b1, o1, p, s1, _, rfl, P1, q1, r1⟩ := (hh.below GPat.good hw).get X1 hlt
      ·
        have Q1 := q1
        obtain ⟨s0, rfl, _, _⟩ := q1
        have R1 : wr.cell? ⟨b1, o1 + k, none⟩ = some (s0) := (by simpa using r1 0 _ rfl)
        clear r1
        go_wp2_with (go_at_call 32; refine (toPat_c p _ _ (hle P1.out) _ Q1).mono ?_; rintro e w2 ⟨r2, rfl, q3, hb2⟩; have Q3 := GPat.good.mono q3 hz; obtain ⟨t0, rfl, -, g0⟩ := q3; obtain ⟨at0, ct0, rfl⟩ := g0.form; clear g0; have hA2 := hA.below hb2; have hF2 := hF.below GPat.good hb2; have hw2 := hw.trans (hb2.mono hw.size); have hz2 := hb2.size; clear hb2 hw hA hF R1; obtain ⟨d0, e0, f0⟩ := hA2 (k) (by omega))
        have S := Filled.step GPat.good hF2 hA2 hlt (off := k) (by omega) P1.out Q3 rfl
        go_roundw
        case rel => exact ⟨k + 1, by omega, by go_num, hw2.trans (below_storeRow w.heap.size [.slice at0 p.nodes.length ct0] w2 (k)), Nat.le_trans hz (Nat.le_trans hz2 (Nat.le_of_eq (size_storeRow w.heap.size [.slice at0 p.nodes.length ct0] w2 (k)).symm)), S.2, S.1⟩
        case measure => simp [intOf]; omega
    · go_wp2
      go_returns
      obtain rfl : k = n := by omega
      obtain rfl := X1.out
      exact ⟨_, rfl, hF.sl GPat.good (Nat.le_refl _) (by omega), hw⟩


set_option maxHeartbeats 1000000 in
theorem toIns_c (x : GIns) (r : List Value) (lo : Nat) (hl : x.bulk ≤ 1048576) (w : World) (hx : GIns.R lo w r x) :
    Calls Try.prog 31 #[.agg r.toArray] w fun e w' => ∃ r', e = .returned (.agg r'.toArray) ∧ GIns.R w.heap.size w' r' x ∧ Below w.heap.size w w' := by
  obtain ⟨x0, x1, x2, x3⟩ := x
  obtain ⟨rfl, ⟨wx0, wx1, wx2, wx3⟩⟩ := hx
  dsimp only at *
  have z3 := size_nonneg x3
  simp only [GIns.bulk] at hl
  go_enter Try.func31, Try.ntmps31
  go_wp2
  refine bodyPost_ret (v := .agg #[.int .i64 x0, .int .i64 x1, .int .i64 x2, .string x3]) (by simp [results, Try.results31, go_sem, *]) rfl ?_
  refine ⟨[.int .i64 x0, .int .i64 x1, .int .i64 x2, .string x3], rfl, ⟨rfl, ⟨wx0, wx1, wx2, wx3⟩⟩, by go_grown⟩


theorem info_InsS : (Try.prog.info? 56).map (fun i => (i.zero, i.size, i.bytes)) = some (some (.agg #[.int .i64 0, .int .i64 0, .int .i64 0, .string ⟨#[]⟩]), 4, 40) := by kernel_rfl

set_option maxHeartbeats 1000000 in
theorem toInsS_c (x : List GIns) (u : Value) (lo : Nat) (hlen : bulkS GIns.bulk x ≤ 1048576) (w : World) (hx : Sl GIns.R 4 lo w u x) :
    Calls Try.prog 14 #[u] w fun e w' => ∃ v, e = .returned v ∧ Sl GIns.R 4 w.heap.size w' v x ∧ Below w.heap.size w w' := by
  obtain ⟨a1, c1, rfl, l1, m1, hh⟩ := hx
  obtain ⟨n, hn⟩ : ∃ n, n = x.length := ⟨_, rfl⟩
  have hlen1 : x.length ≤ 1048576 := by have := length_le_bulkS (f := GIns.bulk) GIns.bulk_nonneg x; omega
  have hle : ∀ {k : Nat} {p : GIns}, x[k]? = some p → GIns.bulk p ≤ 1048576 := fun hp => by have := le_bulkS (f := GIns.bulk) GIns.bulk_nonneg hp; omega
  clear hlen
  rw [← hn] at l1 hlen1 ⊢
  have X1 := Lib.hid hn
  clear hn
  obtain ⟨i0, hi, hi0, hi1, hi2⟩ := info_parts info_InsS
  have I := Lib.hid hi; have I0 := Lib.hid hi0; have I1 := Lib.hid hi1; have I2 := Lib.hid hi2
  clear hi hi0 hi1 hi2
  go_enter Try.func14, Try.ntmps14
  go_wp2_with (at_make; refine wpList_makeN rfl _ _ _ rfl 56 i0 _ 4 Try.underlying28 I.out I0.out I1.out rfl n rfl rfl (by rw [I2.out]; omega) (by omega) ?_; intro w1 hb1 hs1 hA1 _hr1)
  clear _hr1
  go_loopw [4] (fun i wr => ∃ k : Nat, k ≤ n ∧ i = .int .i64 k ∧ Below w.heap.size w wr ∧ w.heap.size + 1 ≤ wr.heap.size ∧ Arr wr w.heap.size (n * 4) ∧ Filled GIns.R 4 wr w.heap.size k x) (fun i _ => n - (intOf i).toNat)
  case atStart => exact ⟨0, by omega, rfl, hb1, by omega, hA1, Filled.zero⟩
  case round =>
    clear hs1 hb1 hA1
    obtain ⟨k, hk, rfl, hw, hz, hA, hF⟩ := hrel
    by_cases hlt : k < n
    · obtain ⟨b1, o1, p, s1, _, rfl, P1, q1, r1⟩ := (hh.below GIns.good hw).get X1 hlt
      ·
        have Q1 := q1
        obtain ⟨rfl, _⟩ := q1
        have R1 : wr.cell? ⟨b1, o1 + k * 4, none⟩ = some (.int .i64 p.op) ∧ wr.cell? ⟨b1, o1 + k * 4 + 1, none⟩ = some (.int .i64 p.a) ∧ wr.cell? ⟨b1, o1 + k * 4 + 2, none⟩ = some (.int .i64 p.b) ∧ wr.cell? ⟨b1, o1 + k * 4 + 3, none⟩ = some (.string p.s) := ⟨by simpa using r1 0 _ rfl, by simpa using r1 1 _ rfl, by simpa using r1 2 _ rfl, by simpa using r1 3 _ rfl⟩
        clear r1
        go_wp2_with (go_at_call 31; refine (toIns_c p _ _ (hle P1.out) _ Q1).mono ?_; rintro e w2 ⟨r2, rfl, q3, hb2⟩; have Q3 := GIns.good.mono q3 hz; obtain ⟨rfl, -⟩ := q3; have hA2 := hA.below hb2; have hF2 := hF.below GIns.good hb2; have hw2 := hw.trans (hb2.mono hw.size); have hz2 := hb2.size; clear hb2 hw hA hF R1; obtain ⟨d0, e0, f0⟩ := hA2 (k * 4) (by omega); obtain ⟨d1, e1, f1⟩ := hA2 (k * 4 + 1) (by omega); obtain ⟨d2, e2, f2⟩ := hA2 (k * 4 + 2) (by omega); obtain ⟨d3, e3, f3⟩ := hA2 (k * 4 + 3) (by omega))
        have S := Filled.step GIns.good hF2 hA2 hlt (off := k * 4) (by omega) P1.out Q3 rfl
        go_roundw
        case rel => exact ⟨k + 1, by omega, by go_num, hw2.trans (below_storeRow w.heap.size [.int .i64 p.op, .int .i64 p.a, .int .i64 p.b, .string p.s] w2 (k * 4)), Nat.le_trans hz (Nat.le_trans hz2 (Nat.le_of_eq (size_storeRow w.heap.size [.int .i64 p.op, .int .i64 p.a, .int .i64 p.b, .string p.s] w2 (k * 4)).symm)), S.2, S.1⟩
        case measure => simp [intOf]; omega
    · go_wp2
      go_returns
      obtain rfl : k = n := by omega
      obtain rfl := X1.out
      exact ⟨_, rfl, hF.sl GIns.good (Nat.le_refl _) (by omega), hw⟩


set_option maxHeartbeats 1000000 in
theorem toCode_c (x : GCode) (r : List Value) (lo : Nat) (hl : x.bulk ≤ 1048576) (w : World) (hx : GCode.R lo w r x) :
    Calls Try.prog 6 #[.agg r.toArray] w fun e w' => ∃ r', e = .returned (.agg r'.toArray) ∧ GCode.R w.heap.size w' r' x ∧ Below w.heap.size w w' := by
  obtain ⟨x0, x1⟩ := x
  obtain ⟨u0, u1, rfl, _, a0, a1⟩ := hx
  dsimp only at *
  have z0 := bulkS_nonneg GIns.bulk_nonneg x0
  have z1 := bulkS_nonneg GPat.bulk_nonneg x1
  simp only [GCode.bulk] at hl
  go_enter Try.func6, Try.ntmps6
  go_wp2_with (first | (go_at_call 14; ((with_reducible refine (toInsS_c x0 u0 lo ?_ _ ?_).mono ?_); omega; exact a0.below GIns.good (by go_grown); rintro e w1 ⟨v0, rfl, c0, hb⟩; have c0 := c0.mono GIns.good (show w.heap.size + 3 ≤ _ by (try simp only [World.size_alloc, World.size_setCell, World.size_drew]); omega); obtain ⟨av0, cv0, rfl⟩ := c0.form; have hw : Below w.heap.size w w1 := Below.trans (by go_grown) (hb.mono (by go_grown)); obtain ⟨hc, hf⟩ := bcell hb; have hz := hw.size; have hz1 := hb.size; have hs0 : w.heap.size < w1.heap.size := (by have h := hz1; (try simp only [World.size_alloc, World.size_setCell, World.size_drew] at h); omega); have hs1 : w.heap.size + 1 < w1.heap.size := (by have h := hz1; (try simp only [World.size_alloc, World.size_setCell, World.size_drew] at h); omega); have hs2 : w.heap.size + 1 + 1 < w1.heap.size := (by have h := hz1; (try simp only [World.size_alloc, World.size_setCell, World.size_drew] at h); omega); clear hb)) | (go_at_call 15; ((with_reducible refine (toPatS_c x1 u1 lo ?_ _ ?_).mono ?_); omega; exact a1.below GPat.good (by go_grown); rintro e w1 ⟨v1, rfl, c1, hb⟩; have c0 := (c0.agree GIns.good (by repeat' (first | with_reducible exact Agree.refl _ _ | with_reducible refine Agree.setCell ?_ ?_ _ | (dsimp only; omega)))).below GIns.good hb; have c1 := c1.mono GPat.good (show w.heap.size + 3 ≤ _ by (try simp only [World.size_alloc, World.size_setCell, World.size_drew]); omega); obtain ⟨av1, cv1, rfl⟩ := c1.form; have hw : Below w.heap.size w w1 := Below.trans (by go_grown) (hb.mono (by go_grown)); obtain ⟨hc, hf⟩ := bcell hb; have hz := hw.size; have hz1 := hb.size; have hs0 : w.heap.size < w1.heap.size := (by have h := hz1; (try simp only [World.size_alloc, World.size_setCell, World.size_drew] at h); omega); have hs1 : w.heap.size + 1 < w1.heap.size := (by have h := hz1; (try simp only [World.size_alloc, World.size_setCell, World.size_drew] at h); omega); have hs2 : w.heap.size + 1 + 1 < w1.heap.size := (by have h := hz1; (try simp only [World.size_alloc, World.size_setCell, World.size_drew] at h); omega); clear hb)))
  refine bodyPost_ret (v := .agg #[.slice av0 x0.length cv0, .slice av1 x1.length cv1]) (by simp [results, Try.results6, go_sem, *]) rfl ?_
  refine ⟨[.slice av0 x0.length cv0, .slice av1 x1.length cv1], rfl, ⟨_, _, rfl, trivial, (c0.agree GIns.good (by repeat' (first | with_reducible exact Agree.refl _ _ | with_reducible refine Agree.setCell ?_ ?_ _ | (dsimp only; omega)))).mono GIns.good (by omega), (c1.agree GPat.good (by repeat' (first | with_reducible exact Agree.refl _ _ | with_reducible refine Agree.setCell ?_ ?_ _ | (dsimp only; omega)))).mono GPat.good (by omega)⟩, by go_grown⟩


end Go.Proofs.Ytklfepnokidnaaa

/- Ranges of numbers: within, Wrap. -/
namespace Go.Proofs.Ytklfepnokidnaaa
open Go.RowKit
set_option linter.unusedVariables false
set_option linter.unusedSimpArgs false
attribute [local go_sem] Ext.cell

theorem toList_empty : ByteArray.empty.toList = [] := by rw [ByteArray.toList_eq]; rfl
theorem isEmpty_iff (s : ByteArray) : s.toList.isEmpty = true ↔ s = ByteArray.empty := by
  rw [List.isEmpty_iff]
  constructor
  · intro h
    exact (toList_eq s ByteArray.empty).1 (by rw [h, toList_empty])
  · rintro rfl; exact toList_empty

/-- 63 bits. -/
def wrap63 (n : Int) : Int := (n + 4611686018427387904) % 9223372036854775808 - 4611686018427387904
theorem wrap63_eq (n : Int) : wrap63 n = n ↔ -4611686018427387904 ≤ n ∧ n ≤ 4611686018427387903 := by unfold wrap63; omega

set_option maxHeartbeats 400000 in
theorem within_c (n lo hi : Int) (w : World) :
    Calls Try.prog 33 #[.int .i64 n, .int .i64 lo, .int .i64 hi] w fun e w' => e = .returned (.bool (decide (lo ≤ n ∧ n ≤ hi))) ∧ w = w' := by
  go_enter Try.func33, Try.ntmps33
  go_wp2
  all_goals (go_returns; refine ⟨?_, rfl⟩; simp_all)
  all_goals omega

set_option maxHeartbeats 400000 in
theorem Wrap_c (n : Int) (h : I64 n) (w : World) :
    Calls Try.prog 53 #[.int .i64 n] w fun e w' => e = .returned (.int .i64 (wrap63 n)) ∧ w = w' := by
  obtain ⟨h0, h1⟩ := h
  go_enter Try.func53, Try.ntmps53
  go_wp2
  go_returns
  refine ⟨?_, rfl⟩
  show Ending.returned (Value.int .i64 (wrap64 (n * 2) / 2)) = _
  congr 2
  unfold wrap64 wrap63
  omega

end Go.Proofs.Ytklfepnokidnaaa
