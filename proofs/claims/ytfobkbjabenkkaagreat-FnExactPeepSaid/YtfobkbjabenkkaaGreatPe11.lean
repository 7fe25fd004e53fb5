/- Parts of the proof, merged: FtIns, FtInt, FtPNode. -/
import Derived.OwnWalk
import Derived.Test.YtfobkbjabenkkaaGreatPe10
/- What the laws' to functions make of Ins is the call's own: printed by gen_footto.py. -/
namespace Go.Proofs.YtfobkbjabenkkaaGreat
open Go.RowKit
set_option linter.unusedVariables false
set_option linter.unusedSimpArgs false
attribute [local go_sem] Ext.cell

set_option maxRecDepth 100000 in
set_option maxHeartbeats 2000000 in
theorem toIns_o (x : GIns) (r : List Value) (lo : Nat) (hl : x.bulk ≤ 1048576) (w : World) (hx : GIns.R lo w r x) :
    Calls Tryz.prog 38 #[.agg r.toArray] w fun e w' => ∃ r' bs, e = .returned (.agg r'.toArray) ∧ GIns.O bs w' r' x ∧ bs.Nodup ∧ (∀ b ∈ bs, w.heap.size ≤ b) ∧ Below w.heap.size w w' := by
  obtain ⟨x0, x1, x2, x3⟩ := x
  obtain ⟨rfl, ⟨wx0, wx1, wx2, wx3⟩⟩ := hx
  dsimp only at *
  have z3 := size_nonneg x3
  simp only [GIns.bulk] at hl
  go_enter Tryz.func38, Tryz.ntmps38
  go_wp2
  refine bodyPost_ret (v := .agg #[.int .i64 x0, .int .i64 x1, .int .i64 x2, .string x3]) (by simp [results, Tryz.results38, go_sem, *]) rfl ?_
  refine ⟨[.int .i64 x0, .int .i64 x1, .int .i64 x2, .string x3], [], rfl, ⟨rfl, rfl, ⟨wx0, wx1, wx2, wx3⟩⟩, List.nodup_nil, fun b h => (by cases h), by go_grown⟩

set_option maxRecDepth 100000 in
set_option maxHeartbeats 2000000 in
theorem toInsS_o (x : List GIns) (u : Value) (lo : Nat) (hlen : bulkS GIns.bulk x ≤ 1048576) (w : World) (hx : Sl GIns.R 4 lo w u x) :
    Calls Tryz.prog 18 #[u] w fun e w' => ∃ v bs, e = .returned v ∧ SlO 57 4 GIns.O bs w' v x ∧ bs.Nodup ∧ (∀ b ∈ bs, w.heap.size ≤ b) ∧ Below w.heap.size w w' := by
  obtain ⟨a1, c1, rfl, l1, m1, hh⟩ := hx
  obtain ⟨n, hn⟩ : ∃ n, n = x.length := ⟨_, rfl⟩
  have hlen1 : x.length ≤ 1048576 := by have := length_le_bulkS (f := GIns.bulk) GIns.bulk_nonneg x; omega
  have hle : ∀ {k : Nat} {p : GIns}, x[k]? = some p → GIns.bulk p ≤ 1048576 := fun hp => by have := le_bulkS (f := GIns.bulk) GIns.bulk_nonneg hp; omega
  clear hlen
  rw [← hn] at l1 hlen1 ⊢
  have X1 := Lib.hid hn
  clear hn
  obtain ⟨i0, hi, hi0, hi1, hi2⟩ := info_parts info_InsS
  have I := Lib.hid hi; have I0 := Lib.hid hi0; have I1 := Lib.hid hi1; have I2 := Lib.hid hi2
  clear hi hi0 hi1 hi2
  go_enter Tryz.func18, Tryz.ntmps18
  go_wp2_with (at_make; refine wpList_make_full _ rfl _ _ _ rfl w.heap.size 57 i0 _ 4 Tryz.underlying27 I.out I0.out I1.out _ _ _ _ n rfl rfl rfl rfl (by rw [I2.out]; omega) (by unfold maxLen; omega) (Nat.le_refl _) ?_; intro w1 hO hgw)
  have hb1 : Below w.heap.size w w1 := (Below.refl w.heap.size w).grown (row := none) hgw (Nat.le_refl _) (by simp)
  have hs1 : w.heap.size < w1.heap.size := (own_base hO _ rfl).2
  have O1 : FillO 57 4 GIns.O w.heap.size w1 w.heap.size n 0 [] x := FillO.made hO x
  replace O1 := Lib.hid O1
  clear hO hgw
  go_loopw [4] (fun i wr => ∃ (k : Nat) (ps : List (List Nat)), k ≤ n ∧ i = .int .i64 k ∧ Below w.heap.size w wr ∧ w.heap.size + 1 ≤ wr.heap.size ∧ Hid (FillO 57 4 GIns.O w.heap.size wr w.heap.size n k ps x) ∧ Hid (ps.flatten.Nodup) ∧ Hid (∀ b ∈ ps.flatten, w.heap.size + 1 ≤ b ∧ b < wr.heap.size)) (fun i _ => n - (intOf i).toNat)
  case atStart => exact ⟨0, [], by omega, rfl, hb1, by omega, O1, List.nodup_nil, fun b h => by cases h⟩
  case round =>
    clear hs1 hb1 O1
    obtain ⟨k, ps, hk, rfl, hw, hz, hO, hN, hL⟩ := hrel
    by_cases hlt : k < n
    · obtain ⟨b1, o1, p, s1, _, rfl, P1, q1, r1⟩ := (hh.below GIns.good hw).get X1 hlt
      have Q1 := q1
      obtain ⟨rfl, _⟩ := q1
      have R1 : wr.cell? ⟨b1, o1 + k * 4, none⟩ = some (.int .i64 p.op) ∧ wr.cell? ⟨b1, o1 + k * 4 + 1, none⟩ = some (.int .i64 p.a) ∧ wr.cell? ⟨b1, o1 + k * 4 + 2, none⟩ = some (.int .i64 p.b) ∧ wr.cell? ⟨b1, o1 + k * 4 + 3, none⟩ = some (.string p.s) := ⟨by simpa using r1 0 _ rfl, by simpa using r1 1 _ rfl, by simpa using r1 2 _ rfl, by simpa using r1 3 _ rfl⟩
      clear r1
      go_wp2_with (go_at_call 38; refine (toIns_o p _ _ (hle P1.out) _ Q1).mono ?_; rintro e w2 ⟨r2, p2, rfl, q3, hnd2, hfr2, hb2⟩; have Q3 := Lib.hid q3; obtain ⟨hbs0, hr3, hwf0⟩ := q3; obtain rfl : r2 = [.int .i64 p.op, .int .i64 p.a, .int .i64 p.b, .string p.s] := hr3; have hA2 := ((hO.out.below GIns.ok hb2).arr (by omega)).2.2; have hO2 := Lib.hid (hO.out.below GIns.ok hb2); have hw2 := hw.trans (hb2.mono hw.size); have hz2 := hb2.size; have hl2 := GIns.ok.lt Q3.out; replace hl2 := Lib.hid hl2; replace hfr2 := Lib.hid hfr2; replace hnd2 := Lib.hid hnd2; clear hb2 hw hO R1; obtain ⟨d0, e0, f0⟩ := hA2 (k * 4) (by omega); obtain ⟨d1, e1, f1⟩ := hA2 (k * 4 + 1) (by omega); obtain ⟨d2, e2, f2⟩ := hA2 (k * 4 + 2) (by omega); obtain ⟨d3, e3, f3⟩ := hA2 (k * 4 + 3) (by omega))
      have hl2' : ∀ b ∈ (p2 : List Nat), b < w2.heap.size := hl2.out
      have hf2' : ∀ b ∈ (p2 : List Nat), wr.heap.size ≤ b := hfr2.out
      go_roundw
      case rel => exact ⟨k + 1, ps ++ [p2], by omega, by go_num, hw2.trans (below_storeRow w.heap.size [.int .i64 p.op, .int .i64 p.a, .int .i64 p.b, .string p.s] w2 (k * 4)), Nat.le_trans hz (Nat.le_trans hz2 (Nat.le_of_eq (size_storeRow w.heap.size [.int .i64 p.op, .int .i64 p.a, .int .i64 p.b, .string p.s] w2 (k * 4)).symm)),
        (hO2.out.step GIns.ok hlt (off := k * 4) (r := [.int .i64 p.op, .int .i64 p.a, .int .i64 p.b, .string p.s]) (by omega) P1.out rfl Q3.out (fun h => by have := hL.out _ h; omega) (fun h => by have := hf2' _ h; omega)),
        by show (ps ++ [p2]).flatten.Nodup; rw [List.flatten_append, List.flatten_singleton]; exact List.nodup_append.2 ⟨hN.out, hnd2.out, fun b h b2 h2 e => by subst e; have := hL.out _ h; have := hf2' _ h2; omega⟩,
        fun b h => by
          rw [List.flatten_append, List.flatten_singleton] at h
          rcases List.mem_append.1 h with h | h
          · have := hL.out _ h; exact ⟨this.1, Nat.lt_of_lt_of_le this.2 (Nat.le_trans hz2 (Nat.le_of_eq (size_storeRow w.heap.size [.int .i64 p.op, .int .i64 p.a, .int .i64 p.b, .string p.s] w2 (k * 4)).symm))⟩
          · have h1 := hf2' _ h; have h2 := hl2' _ h; exact ⟨by omega, Nat.lt_of_lt_of_le h2 (Nat.le_of_eq (size_storeRow w.heap.size [.int .i64 p.op, .int .i64 p.a, .int .i64 p.b, .string p.s] w2 (k * 4)).symm)⟩⟩
      case measure => simp [intOf]; omega
    · go_wp2
      go_returns
      obtain rfl : k = n := by omega
      exact ⟨_, _, rfl, (hO.out.full X1.out).slO, List.nodup_cons.2 ⟨fun h => by have := (hL.out _ h).1; dsimp only at this; omega, hN.out⟩, fun b h => by
        rcases List.mem_cons.1 h with h | h
        · dsimp only at h; omega
        · have := (hL.out _ h).1; omega, hw⟩

end Go.Proofs.YtfobkbjabenkkaaGreat

/- What the laws' to functions make of Int is the call's own: printed by gen_footto.py. -/
namespace Go.Proofs.YtfobkbjabenkkaaGreat
open Go.RowKit
set_option linter.unusedVariables false
set_option linter.unusedSimpArgs false
attribute [local go_sem] Ext.cell

set_option maxRecDepth 100000 in
set_option maxHeartbeats 2000000 in
theorem toIntS_o (x : List Int) (u : Value) (lo : Nat) (hlen : (x.length : Int) ≤ 1048576) (w : World) (hx : Sl IntR 1 lo w u x) :
    Calls Tryz.prog 106 #[u] w fun e w' => ∃ v bs, e = .returned v ∧ SlO 3 1 (FlatO intRow I64) bs w' v x ∧ bs.Nodup ∧ (∀ b ∈ bs, w.heap.size ≤ b) ∧ Below w.heap.size w w' := by
  obtain ⟨a1, c1, rfl, l1, m1, hh⟩ := hx
  obtain ⟨n, hn⟩ : ∃ n, n = x.length := ⟨_, rfl⟩
  have hlen1 : x.length ≤ 1048576 := by omega
  clear hlen
  rw [← hn] at l1 hlen1 ⊢
  have X1 := Lib.hid hn
  clear hn
  obtain ⟨i0, hi, hi0, hi1, hi2⟩ := info_parts info_IntS
  have I := Lib.hid hi; have I0 := Lib.hid hi0; have I1 := Lib.hid hi1; have I2 := Lib.hid hi2
  clear hi hi0 hi1 hi2
  go_enter Tryz.func106, Tryz.ntmps106
  go_wp2_with (at_make; refine wpList_make_full _ rfl _ _ _ rfl w.heap.size 3 i0 _ 1 Tryz.underlying60 I.out I0.out I1.out _ _ _ _ n rfl rfl rfl rfl (by rw [I2.out]; omega) (by unfold maxLen; omega) (Nat.le_refl _) ?_; intro w1 hO hgw)
  have hb1 : Below w.heap.size w w1 := (Below.refl w.heap.size w).grown (row := none) hgw (Nat.le_refl _) (by simp)
  have hs1 : w.heap.size < w1.heap.size := (own_base hO _ rfl).2
  have O1 : FillO 3 1 (FlatO intRow I64) w.heap.size w1 w.heap.size n 0 [] x := FillO.made hO x
  replace O1 := Lib.hid O1
  clear hO hgw
  go_loopw [4] (fun i wr => ∃ (k : Nat) (ps : List (List Nat)), k ≤ n ∧ i = .int .i64 k ∧ Below w.heap.size w wr ∧ w.heap.size + 1 ≤ wr.heap.size ∧ Hid (FillO 3 1 (FlatO intRow I64) w.heap.size wr w.heap.size n k ps x) ∧ Hid (ps.flatten.Nodup) ∧ Hid (∀ b ∈ ps.flatten, w.heap.size + 1 ≤ b ∧ b < wr.heap.size)) (fun i _ => n - (intOf i).toNat)
  case atStart => exact ⟨0, [], by omega, rfl, hb1, by omega, O1, List.nodup_nil, fun b h => by cases h⟩
  case round =>
    clear hs1 hb1 O1
    obtain ⟨k, ps, hk, rfl, hw, hz, hO, hN, hL⟩ := hrel
    by_cases hlt : k < n
    · obtain ⟨b1, o1, p, s1, _, rfl, P1, q1, r1⟩ := (hh.below IntR.good hw).get X1 hlt
      have Q1 := q1
      obtain ⟨rfl, hwf0⟩ := q1
      have R1 : wr.cell? ⟨b1, o1 + k, none⟩ = some (.int .i64 p) := (by simpa using r1 0 _ rfl)
      clear r1
      have hA2 := (hO.out.arr (by omega)).2.2; have hO2 := hO; have hw2 := hw; have hz2 : wr.heap.size ≤ wr.heap.size := Nat.le_refl _
      obtain ⟨d0, e0, f0⟩ := hA2 (k) (by omega)
      go_wp2
      have hl2' : ∀ b ∈ ([] : List Nat), b < wr.heap.size := (fun b h => by cases h)
      have hf2' : ∀ b ∈ ([] : List Nat), wr.heap.size ≤ b := (fun b h => by cases h)
      go_roundw
      case rel => exact ⟨k + 1, ps ++ [[]], by omega, by go_num, hw2.trans (below_storeRow w.heap.size [.int .i64 p] wr (k)), Nat.le_trans hz (Nat.le_trans hz2 (Nat.le_of_eq (size_storeRow w.heap.size [.int .i64 p] wr (k)).symm)),
        (hO2.out.step (flatO_ok flatInt) hlt (off := k) (r := [.int .i64 p]) (by omega) P1.out rfl ⟨rfl, rfl, hwf0⟩ (fun h => by have := hL.out _ h; omega) (fun h => by have := hf2' _ h; omega)),
        by show (ps ++ [[]]).flatten.Nodup; rw [List.flatten_append, List.flatten_singleton]; exact List.nodup_append.2 ⟨hN.out, List.nodup_nil, fun b h b2 h2 e => by subst e; have := hL.out _ h; have := hf2' _ h2; omega⟩,
        fun b h => by
          rw [List.flatten_append, List.flatten_singleton] at h
          rcases List.mem_append.1 h with h | h
          · have := hL.out _ h; exact ⟨this.1, Nat.lt_of_lt_of_le this.2 (Nat.le_trans hz2 (Nat.le_of_eq (size_storeRow w.heap.size [.int .i64 p] wr (k)).symm))⟩
          · have h1 := hf2' _ h; have h2 := hl2' _ h; exact ⟨by omega, Nat.lt_of_lt_of_le h2 (Nat.le_of_eq (size_storeRow w.heap.size [.int .i64 p] wr (k)).symm)⟩⟩
      case measure => simp [intOf]; omega
    · go_wp2
      go_returns
      obtain rfl : k = n := by omega
      exact ⟨_, _, rfl, (hO.out.full X1.out).slO, List.nodup_cons.2 ⟨fun h => by have := (hL.out _ h).1; dsimp only at this; omega, hN.out⟩, fun b h => by
        rcases List.mem_cons.1 h with h | h
        · dsimp only at h; omega
        · have := (hL.out _ h).1; omega, hw⟩

end Go.Proofs.YtfobkbjabenkkaaGreat

/- What the laws' to functions make of PNode is the call's own: printed by gen_footto.py. -/
namespace Go.Proofs.YtfobkbjabenkkaaGreat
open Go.RowKit
set_option linter.unusedVariables false
set_option linter.unusedSimpArgs false
attribute [local go_sem] Ext.cell

set_option maxRecDepth 100000 in
set_option maxHeartbeats 2000000 in
theorem toPNode_o (x : GPNode) (r : List Value) (lo : Nat) (hl : x.bulk ≤ 1048576) (w : World) (hx : GPNode.R lo w r x) :
    Calls Tryz.prog 92 #[.agg r.toArray] w fun e w' => ∃ r' bs, e = .returned (.agg r'.toArray) ∧ GPNode.O bs w' r' x ∧ bs.Nodup ∧ (∀ b ∈ bs, w.heap.size ≤ b) ∧ Below w.heap.size w w' := by
  obtain ⟨x0, x1, x2, x3⟩ := x
  obtain ⟨u0, rfl, ⟨wx0, wx1, wx2⟩, a0⟩ := hx
  dsimp only at *
  have z2 := size_nonneg x2
  have z3 := length_nonneg x3
  simp only [GPNode.bulk] at hl
  go_enter Tryz.func92, Tryz.ntmps92
  go_wp2_with (first | (go_at_call 106; ((with_reducible refine (toIntS_o x3 u0 lo ?_ _ ?_).mono ?_); omega; exact a0.below IntR.good (by go_grown); rintro e w1 ⟨v0, p0, rfl, c0, d0, fr0, hb⟩; have hf0 : ∀ b ∈ p0, w.heap.size + 3 ≤ b := (fun b h => Nat.le_trans (by (try simp only [World.size_alloc, World.size_setCell, World.size_drew]); omega) (fr0 b h)); obtain ⟨av0, cv0, rfl⟩ := c0.form; clear fr0; have hw : Below w.heap.size w w1 := Below.trans (by go_grown) (hb.mono (by go_grown)); obtain ⟨hc, hf⟩ := bcell hb; have hz := hw.size; have hz1 := hb.size; have hs0 : w.heap.size < w1.heap.size := (by have h := hz1; (try simp only [World.size_alloc, World.size_setCell, World.size_drew] at h); omega); have hs1 : w.heap.size + 1 < w1.heap.size := (by have h := hz1; (try simp only [World.size_alloc, World.size_setCell, World.size_drew] at h); omega); have hs2 : w.heap.size + 1 + 1 < w1.heap.size := (by have h := hz1; (try simp only [World.size_alloc, World.size_setCell, World.size_drew] at h); omega); clear hb)))
  refine bodyPost_ret (v := .agg #[.int .i64 x0, .int .i64 x1, .string x2, .slice av0 x3.length cv0]) (by simp [results, Tryz.results92, go_sem, *]) rfl ?_
  refine ⟨[.int .i64 x0, .int .i64 x1, .string x2, .slice av0 x3.length cv0], p0, rfl, ⟨_, rfl, ⟨wx0, wx1, wx2⟩, (c0.kept (flatO_ok flatInt) (S := fun b => b < w.heap.size + 3) (by repeat' (first | with_reducible exact Kept.refl _ _ | with_reducible refine Kept.set ?_ ?_ _ | (dsimp only; omega))) (fun b h hs => by have := hf0 b h; omega))⟩, d0, fun b h => (by have := hf0 b h; omega), by go_grown⟩

set_option maxRecDepth 100000 in
set_option maxHeartbeats 2000000 in
theorem toPNodeS_o (x : List GPNode) (u : Value) (lo : Nat) (hlen : bulkS GPNode.bulk x ≤ 1048576) (w : World) (hx : Sl GPNode.R 4 lo w u x) :
    Calls Tryz.prog 67 #[u] w fun e w' => ∃ v bs, e = .returned v ∧ SlO 77 4 GPNode.O bs w' v x ∧ bs.Nodup ∧ (∀ b ∈ bs, w.heap.size ≤ b) ∧ Below w.heap.size w w' := by
  obtain ⟨a1, c1, rfl, l1, m1, hh⟩ := hx
  obtain ⟨n, hn⟩ : ∃ n, n = x.length := ⟨_, rfl⟩
  have hlen1 : x.length ≤ 1048576 := by have := length_le_bulkS (f := GPNode.bulk) GPNode.bulk_nonneg x; omega
  have hle : ∀ {k : Nat} {p : GPNode}, x[k]? = some p → GPNode.bulk p ≤ 1048576 := fun hp => by have := le_bulkS (f := GPNode.bulk) GPNode.bulk_nonneg hp; omega
  clear hlen
  rw [← hn] at l1 hlen1 ⊢
  have X1 := Lib.hid hn
  clear hn
  obtain ⟨i0, hi, hi0, hi1, hi2⟩ := info_parts info_PNodeS
  have I := Lib.hid hi; have I0 := Lib.hid hi0; have I1 := Lib.hid hi1; have I2 := Lib.hid hi2
  clear hi hi0 hi1 hi2
  go_enter Tryz.func67, Tryz.ntmps67
  go_wp2_with (at_make; refine wpList_make_full _ rfl _ _ _ rfl w.heap.size 77 i0 _ 4 Tryz.underlying53 I.out I0.out I1.out _ _ _ _ n rfl rfl rfl rfl (by rw [I2.out]; omega) (by unfold maxLen; omega) (Nat.le_refl _) ?_; intro w1 hO hgw)
  have hb1 : Below w.heap.size w w1 := (Below.refl w.heap.size w).grown (row := none) hgw (Nat.le_refl _) (by simp)
  have hs1 : w.heap.size < w1.heap.size := (own_base hO _ rfl).2
  have O1 : FillO 77 4 GPNode.O w.heap.size w1 w.heap.size n 0 [] x := FillO.made hO x
  replace O1 := Lib.hid O1
  clear hO hgw
  go_loopw [4] (fun i wr => ∃ (k : Nat) (ps : List (List Nat)), k ≤ n ∧ i = .int .i64 k ∧ Below w.heap.size w wr ∧ w.heap.size + 1 ≤ wr.heap.size ∧ Hid (FillO 77 4 GPNode.O w.heap.size wr w.heap.size n k ps x) ∧ Hid (ps.flatten.Nodup) ∧ Hid (∀ b ∈ ps.flatten, w.heap.size + 1 ≤ b ∧ b < wr.heap.size)) (fun i _ => n - (intOf i).toNat)
  case atStart => exact ⟨0, [], by omega, rfl, hb1, by omega, O1, List.nodup_nil, fun b h => by cases h⟩
  case round =>
    clear hs1 hb1 O1
    obtain ⟨k, ps, hk, rfl, hw, hz, hO, hN, hL⟩ := hrel
    by_cases hlt : k < n
    · obtain ⟨b1, o1, p, s1, _, rfl, P1, q1, r1⟩ := (hh.below GPNode.good hw).get X1 hlt
      have Q1 := q1
      obtain ⟨s0, rfl, _, _⟩ := q1
      have R1 : wr.cell? ⟨b1, o1 + k * 4, none⟩ = some (.int .i64 p.kind) ∧ wr.cell? ⟨b1, o1 + k * 4 + 1, none⟩ = some (.int .i64 p.n) ∧ wr.cell? ⟨b1, o1 + k * 4 + 2, none⟩ = some (.string p.s) ∧ wr.cell? ⟨b1, o1 + k * 4 + 3, none⟩ = some (s0) := ⟨by simpa using r1 0 _ rfl, by simpa using r1 1 _ rfl, by simpa using r1 2 _ rfl, by simpa using r1 3 _ rfl⟩
      clear r1
      go_wp2_with (go_at_call 92; refine (toPNode_o p _ _ (hle P1.out) _ Q1).mono ?_; rintro e w2 ⟨r2, p2, rfl, q3, hnd2, hfr2, hb2⟩; have Q3 := Lib.hid q3; obtain ⟨t0, rfl, hwf0, g0⟩ := q3; obtain ⟨at0, ct0, rfl⟩ := g0.form; clear g0; have hA2 := ((hO.out.below GPNode.ok hb2).arr (by omega)).2.2; have hO2 := Lib.hid (hO.out.below GPNode.ok hb2); have hw2 := hw.trans (hb2.mono hw.size); have hz2 := hb2.size; have hl2 := GPNode.ok.lt Q3.out; replace hl2 := Lib.hid hl2; replace hfr2 := Lib.hid hfr2; replace hnd2 := Lib.hid hnd2; clear hb2 hw hO R1; obtain ⟨d0, e0, f0⟩ := hA2 (k * 4) (by omega); obtain ⟨d1, e1, f1⟩ := hA2 (k * 4 + 1) (by omega); obtain ⟨d2, e2, f2⟩ := hA2 (k * 4 + 2) (by omega); obtain ⟨d3, e3, f3⟩ := hA2 (k * 4 + 3) (by omega))
      have hl2' : ∀ b ∈ (p2 : List Nat), b < w2.heap.size := hl2.out
      have hf2' : ∀ b ∈ (p2 : List Nat), wr.heap.size ≤ b := hfr2.out
      go_roundw
      case rel => exact ⟨k + 1, ps ++ [p2], by omega, by go_num, hw2.trans (below_storeRow w.heap.size [.int .i64 p.kind, .int .i64 p.n, .string p.s, .slice at0 p.kids.length ct0] w2 (k * 4)), Nat.le_trans hz (Nat.le_trans hz2 (Nat.le_of_eq (size_storeRow w.heap.size [.int .i64 p.kind, .int .i64 p.n, .string p.s, .slice at0 p.kids.length ct0] w2 (k * 4)).symm)),
        (hO2.out.step GPNode.ok hlt (off := k * 4) (r := [.int .i64 p.kind, .int .i64 p.n, .string p.s, .slice at0 p.kids.length ct0]) (by omega) P1.out rfl Q3.out (fun h => by have := hL.out _ h; omega) (fun h => by have := hf2' _ h; omega)),
        by show (ps ++ [p2]).flatten.Nodup; rw [List.flatten_append, List.flatten_singleton]; exact List.nodup_append.2 ⟨hN.out, hnd2.out, fun b h b2 h2 e => by subst e; have := hL.out _ h; have := hf2' _ h2; omega⟩,
        fun b h => by
          rw [List.flatten_append, List.flatten_singleton] at h
          rcases List.mem_append.1 h with h | h
          · have := hL.out _ h; exact ⟨this.1, Nat.lt_of_lt_of_le this.2 (Nat.le_trans hz2 (Nat.le_of_eq (size_storeRow w.heap.size [.int .i64 p.kind, .int .i64 p.n, .string p.s, .slice at0 p.kids.length ct0] w2 (k * 4)).symm))⟩
          · have h1 := hf2' _ h; have h2 := hl2' _ h; exact ⟨by omega, Nat.lt_of_lt_of_le h2 (Nat.le_of_eq (size_storeRow w.heap.size [.int .i64 p.kind, .int .i64 p.n, .string p.s, .slice at0 p.kids.length ct0] w2 (k * 4)).symm)⟩⟩
      case measure => simp [intOf]; omega
    · go_wp2
      go_returns
      obtain rfl : k = n := by omega
      exact ⟨_, _, rfl, (hO.out.full X1.out).slO, List.nodup_cons.2 ⟨fun h => by have := (hL.out _ h).1; dsimp only at this; omega, hN.out⟩, fun b h => by
        rcases List.mem_cons.1 h with h | h
        · dsimp only at h; omega
        · have := (hL.out _ h).1; omega, hw⟩

end Go.Proofs.YtfobkbjabenkkaaGreat
