/- The walks of the to functions: a copy in memory of its own. Printed by gen_helpers.py. -/
import Derived.Test.YtajbgkpjmgmdhaaRows
import Derived.Test.YtajbgkpjmgmdhaaTypes
namespace Go.Proofs.Ytajbgkpjmgmdhaa
open Go.RowKit
set_option linter.unusedVariables false
set_option linter.unusedSimpArgs false
attribute [local go_sem] Ext.cell


theorem info_IntS : (Try.prog.info? 3).map (fun i => (i.zero, i.size, i.bytes)) = some (some (.int .i64 0), 1, 8) := by kernel_rfl

set_option maxHeartbeats 1000000 in
theorem toIntS_c (x : List Int) (u : Value) (lo : Nat) (hlen : (x.length : Int) ≤ 1048576) (w : World) (hx : Sl IntR 1 lo w u x) :
    Calls Try.prog 50 #[u] w fun e w' => ∃ v, e = .returned v ∧ Sl IntR 1 w.heap.size w' v x ∧ Below w.heap.size w w' := by
  obtain ⟨a1, c1, rfl, l1, m1, hh⟩ := hx
  obtain ⟨n, hn⟩ : ∃ n, n = x.length := ⟨_, rfl⟩
  have hlen1 : x.length ≤ 1048576 := by omega
  clear hlen
  rw [← hn] at l1 hlen1 ⊢
  have X1 := Lib.hid hn
  clear hn
  obtain ⟨i0, hi, hi0, hi1, hi2⟩ := info_parts info_IntS
  have I := Lib.hid hi; have I0 := Lib.hid hi0; have I1 := Lib.hid hi1; have I2 := Lib.hid hi2
  clear hi hi0 hi1 hi2
  go_enter Try.func50, Try.ntmps50
  go_wp2_with (at_make; refine wpList_makeN rfl _ _ _ rfl 3 i0 _ 1 Try.underlying24 I.out I0.out I1.out rfl n rfl rfl (by rw [I2.out]; omega) (by omega) ?_; intro w1 hb1 hs1 hA1 _hr1)
  clear _hr1
  go_loopw [4] (fun i wr => ∃ k : Nat, k ≤ n ∧ i = .int .i64 k ∧ Below w.heap.size w wr ∧ w.heap.size + 1 ≤ wr.heap.size ∧ Arr wr w.heap.size (n * 1) ∧ Filled IntR 1 wr w.heap.size k x) (fun i _ => n - (intOf i).toNat)
  case atStart => exact ⟨0, by omega, rfl, hb1, by omega, hA1, Filled.zero⟩
  case round =>
    clear hs1 hb1 hA1
    obtain ⟨k, hk, rfl, hw, hz, hA, hF⟩ := hrel
    by_cases hlt : k < n
    · obtain ⟨b1, o1, p, s1, _, rfl, P1, q1, r1⟩ := (hh.below IntR.good hw).get X1 hlt
      ·
        have Q1 := q1
        obtain ⟨rfl, _⟩ := q1
        have R1 : wr.cell? ⟨b1, o1 + k, none⟩ = some (.int .i64 p) := (by simpa using r1 0 _ rfl)
        clear r1
        have hA2 := hA; have hF2 := hF; have hw2 := hw; have hz2 : wr.heap.size ≤ wr.heap.size := Nat.le_refl _
        obtain ⟨d0, e0, f0⟩ := hA2 (k) (by omega)
        have Q3 := IntR.good.mono Q1 (Nat.zero_le _) |> fun _ => (⟨rfl, Q1.2⟩ : IntR (w.heap.size + 1) wr [.int .i64 p] p)
        go_wp2
        have S := Filled.step IntR.good hF2 hA2 hlt (off := k) (by omega) P1.out Q3 rfl
        go_roundw
        case rel => exact ⟨k + 1, by omega, by go_num, hw2.trans (below_storeRow w.heap.size [.int .i64 p] wr (k)), Nat.le_trans hz (Nat.le_trans hz2 (Nat.le_of_eq (size_storeRow w.heap.size [.int .i64 p] wr (k)).symm)), S.2, S.1⟩
        case measure => simp [intOf]; omega
    · go_wp2
      go_returns
      obtain rfl : k = n := by omega
      obtain rfl := X1.out
      exact ⟨_, rfl, hF.sl IntR.good (Nat.le_refl _) (by omega), hw⟩


set_option maxHeartbeats 1000000 in
theorem toVal_c (x : GVal) (r : List Value) (lo : Nat) (hl : x.bulk ≤ 1048576) (w : World) (hx : GVal.R lo w r x) :
    Calls Try.prog 51 #[.agg r.toArray] w fun e w' => ∃ r', e = .returned (.agg r'.toArray) ∧ GVal.R w.heap.size w' r' x ∧ Below w.heap.size w w' := by
  obtain ⟨x0, x1, x2⟩ := x
  obtain ⟨rfl, ⟨wx0, wx1, wx2⟩⟩ := hx
  dsimp only at *
  have z2 := size_nonneg x2
  simp only [GVal.bulk] at hl
  go_enter Try.func51, Try.ntmps51
  go_wp2
  refine bodyPost_ret (v := .agg #[.int .i64 x0, .int .i64 x1, .string x2]) (by simp [results, Try.results51, go_sem, *]) rfl ?_
  refine ⟨[.int .i64 x0, .int .i64 x1, .string x2], rfl, ⟨rfl, ⟨wx0, wx1, wx2⟩⟩, by go_grown⟩


theorem info_ValS : (Try.prog.info? 28).map (fun i => (i.zero, i.size, i.bytes)) = some (some (.agg #[.int .i64 0, .int .i64 0, .string ⟨#[]⟩]), 3, 32) := by kernel_rfl

set_option maxHeartbeats 1000000 in
theorem toValS_c (x : List GVal) (u : Value) (lo : Nat) (hlen : bulkS GVal.bulk x ≤ 1048576) (w : World) (hx : Sl GVal.R 3 lo w u x) :
    Calls Try.prog 27 #[u] w fun e w' => ∃ v, e = .returned v ∧ Sl GVal.R 3 w.heap.size w' v x ∧ Below w.heap.size w w' := by
  obtain ⟨a1, c1, rfl, l1, m1, hh⟩ := hx
  obtain ⟨n, hn⟩ : ∃ n, n = x.length := ⟨_, rfl⟩
  have hlen1 : x.length ≤ 1048576 := by have := length_le_bulkS (f := GVal.bulk) GVal.bulk_nonneg x; omega
  have hle : ∀ {k : Nat} {p : GVal}, x[k]? = some p → GVal.bulk p ≤ 1048576 := fun hp => by have := le_bulkS (f := GVal.bulk) GVal.bulk_nonneg hp; omega
  clear hlen
  rw [← hn] at l1 hlen1 ⊢
  have X1 := Lib.hid hn
  clear hn
  obtain ⟨i0, hi, hi0, hi1, hi2⟩ := info_parts info_ValS
  have I := Lib.hid hi; have I0 := Lib.hid hi0; have I1 := Lib.hid hi1; have I2 := Lib.hid hi2
  clear hi hi0 hi1 hi2
  go_enter Try.func27, Try.ntmps27
  go_wp2_with (at_make; refine wpList_makeN rfl _ _ _ rfl 28 i0 _ 3 Try.underlying52 I.out I0.out I1.out rfl n rfl rfl (by rw [I2.out]; omega) (by omega) ?_; intro w1 hb1 hs1 hA1 _hr1)
  clear _hr1
  go_loopw [4] (fun i wr => ∃ k : Nat, k ≤ n ∧ i = .int .i64 k ∧ Below w.heap.size w wr ∧ w.heap.size + 1 ≤ wr.heap.size ∧ Arr wr w.heap.size (n * 3) ∧ Filled GVal.R 3 wr w.heap.size k x) (fun i _ => n - (intOf i).toNat)
  case atStart => exact ⟨0, by omega, rfl, hb1, by omega, hA1, Filled.zero⟩
  case round =>
    clear hs1 hb1 hA1
    obtain ⟨k, hk, rfl, hw, hz, hA, hF⟩ := hrel
    by_cases hlt : k < n
    · obtain ⟨b1, o1, p, s1, _, rfl, P1, q1, r1⟩ := (hh.below GVal.good hw).get X1 hlt
      ·
        have Q1 := q1
        obtain ⟨rfl, _⟩ := q1
        have R1 : wr.cell? ⟨b1, o1 + k * 3, none⟩ = some (.int .i64 p.kind) ∧ wr.cell? ⟨b1, o1 + k * 3 + 1, none⟩ = some (.int .i64 p.n) ∧ wr.cell? ⟨b1, o1 + k * 3 + 2, none⟩ = some (.string p.s) := ⟨by simpa using r1 0 _ rfl, by simpa using r1 1 _ rfl, by simpa using r1 2 _ rfl⟩
        clear r1
        go_wp2_with (go_at_call 51; refine (toVal_c p _ _ (hle P1.out) _ Q1).mono ?_; rintro e w2 ⟨r2, rfl, q3, hb2⟩; have Q3 := GVal.good.mono q3 hz; obtain ⟨rfl, -⟩ := q3; have hA2 := hA.below hb2; have hF2 := hF.below GVal.good hb2; have hw2 := hw.trans (hb2.mono hw.size); have hz2 := hb2.size; clear hb2 hw hA hF R1; obtain ⟨d0, e0, f0⟩ := hA2 (k * 3) (by omega); obtain ⟨d1, e1, f1⟩ := hA2 (k * 3 + 1) (by omega); obtain ⟨d2, e2, f2⟩ := hA2 (k * 3 + 2) (by omega))
        have S := Filled.step GVal.good hF2 hA2 hlt (off := k * 3) (by omega) P1.out Q3 rfl
        go_roundw
        case rel => exact ⟨k + 1, by omega, by go_num, hw2.trans (below_storeRow w.heap.size [.int .i64 p.kind, .int .i64 p.n, .string p.s] w2 (k * 3)), Nat.le_trans hz (Nat.le_trans hz2 (Nat.le_of_eq (size_storeRow w.heap.size [.int .i64 p.kind, .int .i64 p.n, .string p.s] w2 (k * 3)).symm)), S.2, S.1⟩
        case measure => simp [intOf]; omega
    · go_wp2
      go_returns
      obtain rfl : k = n := by omega
      obtain rfl := X1.out
      exact ⟨_, rfl, hF.sl GVal.good (Nat.le_refl _) (by omega), hw⟩


set_option maxHeartbeats 1000000 in
theorem toCell_c (x : GCell) (r : List Value) (lo : Nat) (hl : x.bulk ≤ 1048576) (w : World) (hx : GCell.R lo w r x) :
    Calls Try.prog 17 #[.agg r.toArray] w fun e w' => ∃ r', e = .returned (.agg r'.toArray) ∧ GCell.R w.heap.size w' r' x ∧ Below w.heap.size w w' := by
  obtain ⟨x0, x1, x2, ⟨x3, x4, x5⟩, ⟨x6, x7, x8⟩⟩ := x
  obtain ⟨rfl, ⟨wx0, wx1, wx2, wx3, wx4, wx5, wx6, wx7, wx8⟩⟩ := hx
  dsimp only at *
  have z2 := size_nonneg x2
  have z3 := GVal.bulk_nonneg (⟨x3, x4, x5⟩ : GVal)
  have z6 := GVal.bulk_nonneg (⟨x6, x7, x8⟩ : GVal)
  simp only [GCell.bulk] at hl
  (try simp only [GVal.bulk] at z3 ⊢)
  (try simp only [GVal.bulk] at z6 ⊢)
  go_enter Try.func17, Try.ntmps17
  go_wp2_with (first | (go_at_call 51; ((with_reducible refine (toVal_c (⟨x3, x4, x5⟩ : GVal) _ lo ?_ _ ?_).mono ?_); (simp only [GVal.bulk]; omega); exact ⟨rfl, ⟨wx3, wx4, wx5⟩⟩; rintro e w1 ⟨r1, rfl, ⟨rfl, _⟩, hb⟩; have hw : Below w.heap.size w w1 := Below.trans (by go_grown) (hb.mono (by go_grown)); obtain ⟨hc, hf⟩ := bcell hb; have hz := hw.size; have hz1 := hb.size; have hs0 : w.heap.size < w1.heap.size := (by have h := hz1; (try simp only [World.size_alloc, World.size_setCell, World.size_drew] at h); omega); have hs1 : w.heap.size + 1 < w1.heap.size := (by have h := hz1; (try simp only [World.size_alloc, World.size_setCell, World.size_drew] at h); omega); have hs2 : w.heap.size + 1 + 1 < w1.heap.size := (by have h := hz1; (try simp only [World.size_alloc, World.size_setCell, World.size_drew] at h); omega); clear hb)) | (go_at_call 51; ((with_reducible refine (toVal_c (⟨x6, x7, x8⟩ : GVal) _ lo ?_ _ ?_).mono ?_); (simp only [GVal.bulk]; omega); exact ⟨rfl, ⟨wx6, wx7, wx8⟩⟩; rintro e w1 ⟨r1, rfl, ⟨rfl, _⟩, hb⟩; have hw : Below w.heap.size w w1 := Below.trans (by go_grown) (hb.mono (by go_grown)); obtain ⟨hc, hf⟩ := bcell hb; have hz := hw.size; have hz1 := hb.size; have hs0 : w.heap.size < w1.heap.size := (by have h := hz1; (try simp only [World.size_alloc, World.size_setCell, World.size_drew] at h); omega); have hs1 : w.heap.size + 1 < w1.heap.size := (by have h := hz1; (try simp only [World.size_alloc, World.size_setCell, World.size_drew] at h); omega); have hs2 : w.heap.size + 1 + 1 < w1.heap.size := (by have h := hz1; (try simp only [World.size_alloc, World.size_setCell, World.size_drew] at h); omega); clear hb)))
  refine bodyPost_ret (v := .agg #[.int .i64 x0, .int .i64 x1, .string x2, .int .i64 x3, .int .i64 x4, .string x5, .int .i64 x6, .int .i64 x7, .string x8]) (by simp [results, Try.results17, go_sem, *]) rfl ?_
  refine ⟨[.int .i64 x0, .int .i64 x1, .string x2, .int .i64 x3, .int .i64 x4, .string x5, .int .i64 x6, .int .i64 x7, .string x8], rfl, ⟨rfl, ⟨wx0, wx1, wx2, wx3, wx4, wx5, wx6, wx7, wx8⟩⟩, by go_grown⟩


theorem info_CellS : (Try.prog.info? 30).map (fun i => (i.zero, i.size, i.bytes)) = some (some (.agg #[.int .i64 0, .int .i64 0, .string ⟨#[]⟩, .int .i64 0, .int .i64 0, .string ⟨#[]⟩, .int .i64 0, .int .i64 0, .string ⟨#[]⟩]), 9, 96) := by kernel_rfl

set_option maxHeartbeats 1000000 in
theorem toCellS_c (x : List GCell) (u : Value) (lo : Nat) (hlen : bulkS GCell.bulk x ≤ 1048576) (w : World) (hx : Sl GCell.R 9 lo w u x) :
    Calls Try.prog 49 #[u] w fun e w' => ∃ v, e = .returned v ∧ Sl GCell.R 9 w.heap.size w' v x ∧ Below w.heap.size w w' := by
  obtain ⟨a1, c1, rfl, l1, m1, hh⟩ := hx
  obtain ⟨n, hn⟩ : ∃ n, n = x.length := ⟨_, rfl⟩
  have hlen1 : x.length ≤ 1048576 := by have := length_le_bulkS (f := GCell.bulk) GCell.bulk_nonneg x; omega
  have hle : ∀ {k : Nat} {p : GCell}, x[k]? = some p → GCell.bulk p ≤ 1048576 := fun hp => by have := le_bulkS (f := GCell.bulk) GCell.bulk_nonneg hp; omega
  clear hlen
  rw [← hn] at l1 hlen1 ⊢
  have X1 := Lib.hid hn
  clear hn
  obtain ⟨i0, hi, hi0, hi1, hi2⟩ := info_parts info_CellS
  have I := Lib.hid hi; have I0 := Lib.hid hi0; have I1 := Lib.hid hi1; have I2 := Lib.hid hi2
  clear hi hi0 hi1 hi2
  go_enter Try.func49, Try.ntmps49
  go_wp2_with (at_make; refine wpList_makeN rfl _ _ _ rfl 30 i0 _ 9 Try.underlying23 I.out I0.out I1.out rfl n rfl rfl (by rw [I2.out]; omega) (by omega) ?_; intro w1 hb1 hs1 hA1 _hr1)
  clear _hr1
  go_loopw [4] (fun i wr => ∃ k : Nat, k ≤ n ∧ i = .int .i64 k ∧ Below w.heap.size w wr ∧ w.heap.size + 1 ≤ wr.heap.size ∧ Arr wr w.heap.size (n * 9) ∧ Filled GCell.R 9 wr w.heap.size k x) (fun i _ => n - (intOf i).toNat)
  case atStart => exact ⟨0, by omega, rfl, hb1, by omega, hA1, Filled.zero⟩
  case round =>
    clear hs1 hb1 hA1
    obtain ⟨k, hk, rfl, hw, hz, hA, hF⟩ := hrel
    by_cases hlt : k < n
    · obtain ⟨b1, o1, p, s1, _, rfl, P1, q1, r1⟩ := (hh.below GCell.good hw).get X1 hlt
      ·
        have Q1 := q1
        obtain ⟨rfl, _⟩ := q1
        have R1 : wr.cell? ⟨b1, o1 + k * 9, none⟩ = some (.int .i64 p.kind) ∧ wr.cell? ⟨b1, o1 + k * 9 + 1, none⟩ = some (.int .i64 p.n) ∧ wr.cell? ⟨b1, o1 + k * 9 + 2, none⟩ = some (.string p.s) ∧ wr.cell? ⟨b1, o1 + k * 9 + 3, none⟩ = some (.int .i64 p.a.kind) ∧ wr.cell? ⟨b1, o1 + k * 9 + 4, none⟩ = some (.int .i64 p.a.n) ∧ wr.cell? ⟨b1, o1 + k * 9 + 5, none⟩ = some (.string p.a.s) ∧ wr.cell? ⟨b1, o1 + k * 9 + 6, none⟩ = some (.int .i64 p.b.kind) ∧ wr.cell? ⟨b1, o1 + k * 9 + 7, none⟩ = some (.int .i64 p.b.n) ∧ wr.cell? ⟨b1, o1 + k * 9 + 8, none⟩ = some (.string p.b.s) := ⟨by simpa using r1 0 _ rfl, by simpa using r1 1 _ rfl, by simpa using r1 2 _ rfl, by simpa using r1 3 _ rfl, by simpa using r1 4 _ rfl, by simpa using r1 5 _ rfl, by simpa using r1 6 _ rfl, by simpa using r1 7 _ rfl, by simpa using r1 8 _ rfl⟩
        clear r1
        go_wp2_with (go_at_call 17; refine (toCell_c p _ _ (hle P1.out) _ Q1).mono ?_; rintro e w2 ⟨r2, rfl, q3, hb2⟩; have Q3 := GCell.good.mono q3 hz; obtain ⟨rfl, -⟩ := q3; have hA2 := hA.below hb2; have hF2 := hF.below GCell.good hb2; have hw2 := hw.trans (hb2.mono hw.size); have hz2 := hb2.size; clear hb2 hw hA hF R1; obtain ⟨d0, e0, f0⟩ := hA2 (k * 9) (by omega); obtain ⟨d1, e1, f1⟩ := hA2 (k * 9 + 1) (by omega); obtain ⟨d2, e2, f2⟩ := hA2 (k * 9 + 2) (by omega); obtain ⟨d3, e3, f3⟩ := hA2 (k * 9 + 3) (by omega); obtain ⟨d4, e4, f4⟩ := hA2 (k * 9 + 4) (by omega); obtain ⟨d5, e5, f5⟩ := hA2 (k * 9 + 5) (by omega); obtain ⟨d6, e6, f6⟩ := hA2 (k * 9 + 6) (by omega); obtain ⟨d7, e7, f7⟩ := hA2 (k * 9 + 7) (by omega); obtain ⟨d8, e8, f8⟩ := hA2 (k * 9 + 8) (by omega))
        have S := Filled.step GCell.good hF2 hA2 hlt (off := k * 9) (by omega) P1.out Q3 rfl
        go_roundw
        case rel => exact ⟨k + 1, by omega, by go_num, hw2.trans (below_storeRow w.heap.size [.int .i64 p.kind, .int .i64 p.n, .string p.s, .int .i64 p.a.kind, .int .i64 p.a.n, .string p.a.s, .int .i64 p.b.kind, .int .i64 p.b.n, .string p.b.s] w2 (k * 9)), Nat.le_trans hz (Nat.le_trans hz2 (Nat.le_of_eq (size_storeRow w.heap.size [.int .i64 p.kind, .int .i64 p.n, .string p.s, .int .i64 p.a.kind, .int .i64 p.a.n, .string p.a.s, .int .i64 p.b.kind, .int .i64 p.b.n, .string p.b.s] w2 (k * 9)).symm)), S.2, S.1⟩
        case measure => simp [intOf]; omega
    · go_wp2
      go_returns
      obtain rfl : k = n := by omega
      obtain rfl := X1.out
      exact ⟨_, rfl, hF.sl GCell.good (Nat.le_refl _) (by omega), hw⟩


set_option maxHeartbeats 1000000 in
theorem toPool_c (x : GPool) (r : List Value) (lo : Nat) (hl : x.bulk ≤ 1048576) (w : World) (hx : GPool.R lo w r x) :
    Calls Try.prog 16 #[.agg r.toArray] w fun e w' => ∃ r', e = .returned (.agg r'.toArray) ∧ GPool.R w.heap.size w' r' x ∧ Below w.heap.size w w' := by
  obtain ⟨x0, x1⟩ := x
  obtain ⟨u0, u1, rfl, _, a0, a1⟩ := hx
  dsimp only at *
  have z0 := bulkS_nonneg GCell.bulk_nonneg x0
  have z1 := length_nonneg x1
  simp only [GPool.bulk] at hl
  go_enter Try.func16, Try.ntmps16
  go_wp2_with (first | (go_at_call 49; ((with_reducible refine (toCellS_c x0 u0 lo ?_ _ ?_).mono ?_); omega; exact a0.below GCell.good (by go_grown); rintro e w1 ⟨v0, rfl, c0, hb⟩; have c0 := c0.mono GCell.good (show w.heap.size + 3 ≤ _ by (try simp only [World.size_alloc, World.size_setCell, World.size_drew]); omega); obtain ⟨av0, cv0, rfl⟩ := c0.form; have hw : Below w.heap.size w w1 := Below.trans (by go_grown) (hb.mono (by go_grown)); obtain ⟨hc, hf⟩ := bcell hb; have hz := hw.size; have hz1 := hb.size; have hs0 : w.heap.size < w1.heap.size := (by have h := hz1; (try simp only [World.size_alloc, World.size_setCell, World.size_drew] at h); omega); have hs1 : w.heap.size + 1 < w1.heap.size := (by have h := hz1; (try simp only [World.size_alloc, World.size_setCell, World.size_drew] at h); omega); have hs2 : w.heap.size + 1 + 1 < w1.heap.size := (by have h := hz1; (try simp only [World.size_alloc, World.size_setCell, World.size_drew] at h); omega); clear hb)) | (go_at_call 50; ((with_reducible refine (toIntS_c x1 u1 lo ?_ _ ?_).mono ?_); omega; exact a1.below IntR.good (by go_grown); rintro e w1 ⟨v1, rfl, c1, hb⟩; have c0 := (c0.agree GCell.good (by repeat' (first | with_reducible exact Agree.refl _ _ | with_reducible refine Agree.setCell ?_ ?_ _ | (dsimp only; omega)))).below GCell.good hb; have c1 := c1.mono IntR.good (show w.heap.size + 3 ≤ _ by (try simp only [World.size_alloc, World.size_setCell, World.size_drew]); omega); obtain ⟨av1, cv1, rfl⟩ := c1.form; have hw : Below w.heap.size w w1 := Below.trans (by go_grown) (hb.mono (by go_grown)); obtain ⟨hc, hf⟩ := bcell hb; have hz := hw.size; have hz1 := hb.size; have hs0 : w.heap.size < w1.heap.size := (by have h := hz1; (try simp only [World.size_alloc, World.size_setCell, World.size_drew] at h); omega); have hs1 : w.heap.size + 1 < w1.heap.size := (by have h := hz1; (try simp only [World.size_alloc, World.size_setCell, World.size_drew] at h); omega); have hs2 : w.heap.size + 1 + 1 < w1.heap.size := (by have h := hz1; (try simp only [World.size_alloc, World.size_setCell, World.size_drew] at h); omega); clear hb)))
  refine bodyPost_ret (v := .agg #[.slice av0 x0.length cv0, .slice av1 x1.length cv1]) (by simp [results, Try.results16, go_sem, *]) rfl ?_
  refine ⟨[.slice av0 x0.length cv0, .slice av1 x1.length cv1], rfl, ⟨_, _, rfl, trivial, (c0.agree GCell.good (by repeat' (first | with_reducible exact Agree.refl _ _ | with_reducible refine Agree.setCell ?_ ?_ _ | (dsimp only; omega)))).mono GCell.good (by omega), (c1.agree IntR.good (by repeat' (first | with_reducible exact Agree.refl _ _ | with_reducible refine Agree.setCell ?_ ?_ _ | (dsimp only; omega)))).mono IntR.good (by omega)⟩, by go_grown⟩


end Go.Proofs.Ytajbgkpjmgmdhaa