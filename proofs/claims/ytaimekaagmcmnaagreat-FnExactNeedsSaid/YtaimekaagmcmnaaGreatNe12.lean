/- Parts of the proof, merged: FtInt, FtPNode, FtPat, FtIns, Copy. -/
import Derived.OwnWalk
import Derived.Test.YtaimekaagmcmnaaGreatNe11
/- What the laws' to functions make of Int is the call's own: printed by gen_footto.py. -/
namespace Go.Proofs.YtaimekaagmcmnaaGreat
open Go.RowKit
set_option linter.unusedVariables false
set_option linter.unusedSimpArgs false
attribute [local go_sem] Ext.cell

set_option maxRecDepth 100000 in
set_option maxHeartbeats 2000000 in
theorem toIntS_o (x : List Int) (u : Value) (lo : Nat) (hlen : (x.length : Int) ≤ 1048576) (w : World) (hx : Sl IntR 1 lo w u x) :
    Calls Tryz.prog 73 #[u] w fun e w' => ∃ v bs, e = .returned v ∧ SlO 3 1 (FlatO intRow I64) bs w' v x ∧ bs.Nodup ∧ (∀ b ∈ bs, w.heap.size ≤ b) ∧ Below w.heap.size w w' := by
  obtain ⟨a1, c1, rfl, l1, m1, hh⟩ := hx
  obtain ⟨n, hn⟩ : ∃ n, n = x.length := ⟨_, rfl⟩
  have hlen1 : x.length ≤ 1048576 := by omega
  clear hlen
  rw [← hn] at l1 hlen1 ⊢
  have X1 := Lib.hid hn
  clear hn
  obtain ⟨i0, hi, hi0, hi1, hi2⟩ := info_parts info_IntS
  have I := Lib.hid hi; have I0 := Lib.hid hi0; have I1 := Lib.hid hi1; have I2 := Lib.hid hi2
  clear hi hi0 hi1 hi2
  go_enter Tryz.func73, Tryz.ntmps73
  go_wp2_with (at_make; refine wpList_make_full _ rfl _ _ _ rfl w.heap.size 3 i0 _ 1 Tryz.underlying59 I.out I0.out I1.out _ _ _ _ n rfl rfl rfl rfl (by rw [I2.out]; omega) (by unfold maxLen; omega) (Nat.le_refl _) ?_; intro w1 hO hgw)
  have hb1 : Below w.heap.size w w1 := (Below.refl w.heap.size w).grown (row := none) hgw (Nat.le_refl _) (by simp)
  have hs1 : w.heap.size < w1.heap.size := (own_base hO _ rfl).2
  have O1 : FillO 3 1 (FlatO intRow I64) w.heap.size w1 w.heap.size n 0 [] x := FillO.made hO x
  replace O1 := Lib.hid O1
  clear hO hgw
  go_loopw [4] (fun i wr => ∃ (k : Nat) (ps : List (List Nat)), k ≤ n ∧ i = .int .i64 k ∧ Below w.heap.size w wr ∧ w.heap.size + 1 ≤ wr.heap.size ∧ Hid (FillO 3 1 (FlatO intRow I64) w.heap.size wr w.heap.size n k ps x) ∧ Hid (ps.flatten.Nodup) ∧ Hid (∀ b ∈ ps.flatten, w.heap.size + 1 ≤ b ∧ b < wr.heap.size)) (fun i _ => n - (intOf i).toNat)
  case atStart => exact ⟨0, [], by omega, rfl, hb1, by omega, O1, List.nodup_nil, fun b h => by cases h⟩
  case round =>
    clear hs1 hb1 O1
    obtain ⟨k, ps, hk, rfl, hw, hz, hO, hN, hL⟩ := hrel
    by_cases hlt : k < n
    · obtain ⟨b1, o1, p, s1, _, rfl, P1, q1, r1⟩ := (hh.below IntR.good hw).get X1 hlt
      have Q1 := q1
      obtain ⟨rfl, hwf0⟩ := q1
      have R1 : wr.cell? ⟨b1, o1 + k, none⟩ = some (.int .i64 p) := (by simpa using r1 0 _ rfl)
      clear r1
      have hA2 := (hO.out.arr (by omega)).2.2; have hO2 := hO; have hw2 := hw; have hz2 : wr.heap.size ≤ wr.heap.size := Nat.le_refl _
      obtain ⟨d0, e0, f0⟩ := hA2 (k) (by omega)
      go_wp2
      have hl2' : ∀ b ∈ ([] : List Nat), b < wr.heap.size := (fun b h => by cases h)
      have hf2' : ∀ b ∈ ([] : List Nat), wr.heap.size ≤ b := (fun b h => by cases h)
      go_roundw
      case rel => exact ⟨k + 1, ps ++ [[]], by omega, by go_num, hw2.trans (below_storeRow w.heap.size [.int .i64 p] wr (k)), Nat.le_trans hz (Nat.le_trans hz2 (Nat.le_of_eq (size_storeRow w.heap.size [.int .i64 p] wr (k)).symm)),
        (hO2.out.step (flatO_ok flatInt) hlt (off := k) (r := [.int .i64 p]) (by omega) P1.out rfl ⟨rfl, rfl, hwf0⟩ (fun h => by have := hL.out _ h; omega) (fun h => by have := hf2' _ h; omega)),
        by show (ps ++ [[]]).flatten.Nodup; rw [List.flatten_append, List.flatten_singleton]; exact List.nodup_append.2 ⟨hN.out, List.nodup_nil, fun b h b2 h2 e => by subst e; have := hL.out _ h; have := hf2' _ h2; omega⟩,
        fun b h => by
          rw [List.flatten_append, List.flatten_singleton] at h
          rcases List.mem_append.1 h with h | h
          · have := hL.out _ h; exact ⟨this.1, Nat.lt_of_lt_of_le this.2 (Nat.le_trans hz2 (Nat.le_of_eq (size_storeRow w.heap.size [.int .i64 p] wr (k)).symm))⟩
          · have h1 := hf2' _ h; have h2 := hl2' _ h; exact ⟨by omega, Nat.lt_of_lt_of_le h2 (Nat.le_of_eq (size_storeRow w.heap.size [.int .i64 p] wr (k)).symm)⟩⟩
      case measure => simp [intOf]; omega
    · go_wp2
      go_returns
      obtain rfl : k = n := by omega
      exact ⟨_, _, rfl, (hO.out.full X1.out).slO, List.nodup_cons.2 ⟨fun h => by have := (hL.out _ h).1; dsimp only at this; omega, hN.out⟩, fun b h => by
        rcases List.mem_cons.1 h with h | h
        · dsimp only at h; omega
        · have := (hL.out _ h).1; omega, hw⟩

end Go.Proofs.YtaimekaagmcmnaaGreat

/- What the laws' to functions make of PNode is the call's own: printed by gen_footto.py. -/
namespace Go.Proofs.YtaimekaagmcmnaaGreat
open Go.RowKit
set_option linter.unusedVariables false
set_option linter.unusedSimpArgs false
attribute [local go_sem] Ext.cell

set_option maxRecDepth 100000 in
set_option maxHeartbeats 2000000 in
theorem toPNode_o (x : GPNode) (r : List Value) (lo : Nat) (hl : x.bulk ≤ 1048576) (w : World) (hx : GPNode.R lo w r x) :
    Calls Tryz.prog 153 #[.agg r.toArray] w fun e w' => ∃ r' bs, e = .returned (.agg r'.toArray) ∧ GPNode.O bs w' r' x ∧ bs.Nodup ∧ (∀ b ∈ bs, w.heap.size ≤ b) ∧ Below w.heap.size w w' := by
  obtain ⟨x0, x1, x2, x3⟩ := x
  obtain ⟨u0, rfl, ⟨wx0, wx1, wx2⟩, a0⟩ := hx
  dsimp only at *
  have z2 := size_nonneg x2
  have z3 := length_nonneg x3
  simp only [GPNode.bulk] at hl
  go_enter Tryz.func153, Tryz.ntmps153
  go_wp2_with (first | (go_at_call 73; ((with_reducible refine (toIntS_o x3 u0 lo ?_ _ ?_).mono ?_); omega; exact a0.below IntR.good (by go_grown); rintro e w1 ⟨v0, p0, rfl, c0, d0, fr0, hb⟩; have hf0 : ∀ b ∈ p0, w.heap.size + 3 ≤ b := (fun b h => Nat.le_trans (by (try simp only [World.size_alloc, World.size_setCell, World.size_drew]); omega) (fr0 b h)); obtain ⟨av0, cv0, rfl⟩ := c0.form; clear fr0; have hw : Below w.heap.size w w1 := Below.trans (by go_grown) (hb.mono (by go_grown)); obtain ⟨hc, hf⟩ := bcell hb; have hz := hw.size; have hz1 := hb.size; have hs0 : w.heap.size < w1.heap.size := (by have h := hz1; (try simp only [World.size_alloc, World.size_setCell, World.size_drew] at h); omega); have hs1 : w.heap.size + 1 < w1.heap.size := (by have h := hz1; (try simp only [World.size_alloc, World.size_setCell, World.size_drew] at h); omega); have hs2 : w.heap.size + 1 + 1 < w1.heap.size := (by have h := hz1; (try simp only [World.size_alloc, World.size_setCell, World.size_drew] at h); omega); clear hb)))
  refine bodyPost_ret (v := .agg #[.int .i64 x0, .int .i64 x1, .string x2, .slice av0 x3.length cv0]) (by simp [results, Tryz.results153, go_sem, *]) rfl ?_
  refine ⟨[.int .i64 x0, .int .i64 x1, .string x2, .slice av0 x3.length cv0], p0, rfl, ⟨_, rfl, ⟨wx0, wx1, wx2⟩, (c0.kept (flatO_ok flatInt) (S := fun b => b < w.heap.size + 3) (by repeat' (first | with_reducible exact Kept.refl _ _ | with_reducible refine Kept.set ?_ ?_ _ | (dsimp only; omega))) (fun b h hs => by have := hf0 b h; omega))⟩, d0, fun b h => (by have := hf0 b h; omega), by go_grown⟩

set_option maxRecDepth 100000 in
set_option maxHeartbeats 2000000 in
theorem toPNodeS_o (x : List GPNode) (u : Value) (lo : Nat) (hlen : bulkS GPNode.bulk x ≤ 1048576) (w : World) (hx : Sl GPNode.R 4 lo w u x) :
    Calls Tryz.prog 127 #[u] w fun e w' => ∃ v bs, e = .returned v ∧ SlO 111 4 GPNode.O bs w' v x ∧ bs.Nodup ∧ (∀ b ∈ bs, w.heap.size ≤ b) ∧ Below w.heap.size w w' := by
  obtain ⟨a1, c1, rfl, l1, m1, hh⟩ := hx
  obtain ⟨n, hn⟩ : ∃ n, n = x.length := ⟨_, rfl⟩
  have hlen1 : x.length ≤ 1048576 := by have := length_le_bulkS (f := GPNode.bulk) GPNode.bulk_nonneg x; omega
  have hle : ∀ {k : Nat} {p : GPNode}, x[k]? = some p → GPNode.bulk p ≤ 1048576 := fun hp => by have := le_bulkS (f := GPNode.bulk) GPNode.bulk_nonneg hp; omega
  clear hlen
  rw [← hn] at l1 hlen1 ⊢
  have X1 := Lib.hid hn
  clear hn
  obtain ⟨i0, hi, hi0, hi1, hi2⟩ := info_parts info_PNodeS
  have I := Lib.hid hi; have I0 := Lib.hid hi0; have I1 := Lib.hid hi1; have I2 := Lib.hid hi2
  clear hi hi0 hi1 hi2
  go_enter Tryz.func127, Tryz.ntmps127
  go_wp2_with (at_make; refine wpList_make_full _ rfl _ _ _ rfl w.heap.size 111 i0 _ 4 Tryz.underlying81 I.out I0.out I1.out _ _ _ _ n rfl rfl rfl rfl (by rw [I2.out]; omega) (by unfold maxLen; omega) (Nat.le_refl _) ?_; intro w1 hO hgw)
  have hb1 : Below w.heap.size w w1 := (Below.refl w.heap.size w).grown (row := none) hgw (Nat.le_refl _) (by simp)
  have hs1 : w.heap.size < w1.heap.size := (own_base hO _ rfl).2
  have O1 : FillO 111 4 GPNode.O w.heap.size w1 w.heap.size n 0 [] x := FillO.made hO x
  replace O1 := Lib.hid O1
  clear hO hgw
  go_loopw [4] (fun i wr => ∃ (k : Nat) (ps : List (List Nat)), k ≤ n ∧ i = .int .i64 k ∧ Below w.heap.size w wr ∧ w.heap.size + 1 ≤ wr.heap.size ∧ Hid (FillO 111 4 GPNode.O w.heap.size wr w.heap.size n k ps x) ∧ Hid (ps.flatten.Nodup) ∧ Hid (∀ b ∈ ps.flatten, w.heap.size + 1 ≤ b ∧ b < wr.heap.size)) (fun i _ => n - (intOf i).toNat)
  case atStart => exact ⟨0, [], by omega, rfl, hb1, by omega, O1, List.nodup_nil, fun b h => by cases h⟩
  case round =>
    clear hs1 hb1 O1
    obtain ⟨k, ps, hk, rfl, hw, hz, hO, hN, hL⟩ := hrel
    by_cases hlt : k < n
    · obtain ⟨b1, o1, p, s1, _, rfl, P1, q1, r1⟩ := (hh.below GPNode.good hw).get X1 hlt
      have Q1 := q1
      obtain ⟨s0, rfl, _, _⟩ := q1
      have R1 : wr.cell? ⟨b1, o1 + k * 4, none⟩ = some (.int .i64 p.kind) ∧ wr.cell? ⟨b1, o1 + k * 4 + 1, none⟩ = some (.int .i64 p.n) ∧ wr.cell? ⟨b1, o1 + k * 4 + 2, none⟩ = some (.string p.s) ∧ wr.cell? ⟨b1, o1 + k * 4 + 3, none⟩ = some (s0) := ⟨by simpa using r1 0 _ rfl, by simpa using r1 1 _ rfl, by simpa using r1 2 _ rfl, by simpa using r1 3 _ rfl⟩
      clear r1
      go_wp2_with (go_at_call 153; refine (toPNode_o p _ _ (hle P1.out) _ Q1).mono ?_; rintro e w2 ⟨r2, p2, rfl, q3, hnd2, hfr2, hb2⟩; have Q3 := Lib.hid q3; obtain ⟨t0, rfl, hwf0, g0⟩ := q3; obtain ⟨at0, ct0, rfl⟩ := g0.form; clear g0; have hA2 := ((hO.out.below GPNode.ok hb2).arr (by omega)).2.2; have hO2 := Lib.hid (hO.out.below GPNode.ok hb2); have hw2 := hw.trans (hb2.mono hw.size); have hz2 := hb2.size; have hl2 := GPNode.ok.lt Q3.out; replace hl2 := Lib.hid hl2; replace hfr2 := Lib.hid hfr2; replace hnd2 := Lib.hid hnd2; clear hb2 hw hO R1; obtain ⟨d0, e0, f0⟩ := hA2 (k * 4) (by omega); obtain ⟨d1, e1, f1⟩ := hA2 (k * 4 + 1) (by omega); obtain ⟨d2, e2, f2⟩ := hA2 (k * 4 + 2) (by omega); obtain ⟨d3, e3, f3⟩ := hA2 (k * 4 + 3) (by omega))
      have hl2' : ∀ b ∈ (p2 : List Nat), b < w2.heap.size := hl2.out
      have hf2' : ∀ b ∈ (p2 : List Nat), wr.heap.size ≤ b := hfr2.out
      go_roundw
      case rel => exact ⟨k + 1, ps ++ [p2], by omega, by go_num, hw2.trans (below_storeRow w.heap.size [.int .i64 p.kind, .int .i64 p.n, .string p.s, .slice at0 p.kids.length ct0] w2 (k * 4)), Nat.le_trans hz (Nat.le_trans hz2 (Nat.le_of_eq (size_storeRow w.heap.size [.int .i64 p.kind, .int .i64 p.n, .string p.s, .slice at0 p.kids.length ct0] w2 (k * 4)).symm)),
        (hO2.out.step GPNode.ok hlt (off := k * 4) (r := [.int .i64 p.kind, .int .i64 p.n, .string p.s, .slice at0 p.kids.length ct0]) (by omega) P1.out rfl Q3.out (fun h => by have := hL.out _ h; omega) (fun h => by have := hf2' _ h; omega)),
        by show (ps ++ [p2]).flatten.Nodup; rw [List.flatten_append, List.flatten_singleton]; exact List.nodup_append.2 ⟨hN.out, hnd2.out, fun b h b2 h2 e => by subst e; have := hL.out _ h; have := hf2' _ h2; omega⟩,
        fun b h => by
          rw [List.flatten_append, List.flatten_singleton] at h
          rcases List.mem_append.1 h with h | h
          · have := hL.out _ h; exact ⟨this.1, Nat.lt_of_lt_of_le this.2 (Nat.le_trans hz2 (Nat.le_of_eq (size_storeRow w.heap.size [.int .i64 p.kind, .int .i64 p.n, .string p.s, .slice at0 p.kids.length ct0] w2 (k * 4)).symm))⟩
          · have h1 := hf2' _ h; have h2 := hl2' _ h; exact ⟨by omega, Nat.lt_of_lt_of_le h2 (Nat.le_of_eq (size_storeRow w.heap.size [.int .i64 p.kind, .int .i64 p.n, .string p.s, .slice at0 p.kids.length ct0] w2 (k * 4)).symm)⟩⟩
      case measure => simp [intOf]; omega
    · go_wp2
      go_returns
      obtain rfl : k = n := by omega
      exact ⟨_, _, rfl, (hO.out.full X1.out).slO, List.nodup_cons.2 ⟨fun h => by have := (hL.out _ h).1; dsimp only at this; omega, hN.out⟩, fun b h => by
        rcases List.mem_cons.1 h with h | h
        · dsimp only at h; omega
        · have := (hL.out _ h).1; omega, hw⟩

end Go.Proofs.YtaimekaagmcmnaaGreat

/- What the laws' to functions make of Pat is the call's own: printed by gen_footto.py. -/
namespace Go.Proofs.YtaimekaagmcmnaaGreat
open Go.RowKit
set_option linter.unusedVariables false
set_option linter.unusedSimpArgs false
attribute [local go_sem] Ext.cell

set_option maxRecDepth 100000 in
set_option maxHeartbeats 2000000 in
theorem toPat_o (x : GPat) (r : List Value) (lo : Nat) (hl : x.bulk ≤ 1048576) (w : World) (hx : GPat.R lo w r x) :
    Calls Tryz.prog 105 #[.agg r.toArray] w fun e w' => ∃ r' bs, e = .returned (.agg r'.toArray) ∧ GPat.O bs w' r' x ∧ bs.Nodup ∧ (∀ b ∈ bs, w.heap.size ≤ b) ∧ Below w.heap.size w w' := by
  obtain ⟨x0⟩ := x
  obtain ⟨u0, rfl, _, a0⟩ := hx
  dsimp only at *
  have z0 := bulkS_nonneg GPNode.bulk_nonneg x0
  simp only [GPat.bulk] at hl
  go_enter Tryz.func105, Tryz.ntmps105
  go_wp2_with (first | (go_at_call 127; ((with_reducible refine (toPNodeS_o x0 u0 lo ?_ _ ?_).mono ?_); omega; exact a0.below GPNode.good (by go_grown); rintro e w1 ⟨v0, p0, rfl, c0, d0, fr0, hb⟩; have hf0 : ∀ b ∈ p0, w.heap.size + 3 ≤ b := (fun b h => Nat.le_trans (by (try simp only [World.size_alloc, World.size_setCell, World.size_drew]); omega) (fr0 b h)); obtain ⟨av0, cv0, rfl⟩ := c0.form; clear fr0; have hw : Below w.heap.size w w1 := Below.trans (by go_grown) (hb.mono (by go_grown)); obtain ⟨hc, hf⟩ := bcell hb; have hz := hw.size; have hz1 := hb.size; have hs0 : w.heap.size < w1.heap.size := (by have h := hz1; (try simp only [World.size_alloc, World.size_setCell, World.size_drew] at h); omega); have hs1 : w.heap.size + 1 < w1.heap.size := (by have h := hz1; (try simp only [World.size_alloc, World.size_setCell, World.size_drew] at h); omega); have hs2 : w.heap.size + 1 + 1 < w1.heap.size := (by have h := hz1; (try simp only [World.size_alloc, World.size_setCell, World.size_drew] at h); omega); clear hb)))
  refine bodyPost_ret (v := .agg #[.slice av0 x0.length cv0]) (by simp [results, Tryz.results105, go_sem, *]) rfl ?_
  refine ⟨[.slice av0 x0.length cv0], p0, rfl, ⟨_, rfl, trivial, (c0.kept GPNode.ok (S := fun b => b < w.heap.size + 3) (by repeat' (first | with_reducible exact Kept.refl _ _ | with_reducible refine Kept.set ?_ ?_ _ | (dsimp only; omega))) (fun b h hs => by have := hf0 b h; omega))⟩, d0, fun b h => (by have := hf0 b h; omega), by go_grown⟩

set_option maxRecDepth 100000 in
set_option maxHeartbeats 2000000 in
theorem toPatS_o (x : List GPat) (u : Value) (lo : Nat) (hlen : bulkS GPat.bulk x ≤ 1048576) (w : World) (hx : Sl GPat.R 1 lo w u x) :
    Calls Tryz.prog 74 #[u] w fun e w' => ∃ v bs, e = .returned v ∧ SlO 83 1 GPat.O bs w' v x ∧ bs.Nodup ∧ (∀ b ∈ bs, w.heap.size ≤ b) ∧ Below w.heap.size w w' := by
  obtain ⟨a1, c1, rfl, l1, m1, hh⟩ := hx
  obtain ⟨n, hn⟩ : ∃ n, n = x.length := ⟨_, rfl⟩
  have hlen1 : x.length ≤ 1048576 := by have := length_le_bulkS (f := GPat.bulk) GPat.bulk_nonneg x; omega
  have hle : ∀ {k : Nat} {p : GPat}, x[k]? = some p → GPat.bulk p ≤ 1048576 := fun hp => by have := le_bulkS (f := GPat.bulk) GPat.bulk_nonneg hp; omega
  clear hlen
  rw [← hn] at l1 hlen1 ⊢
  have X1 := Lib.hid hn
  clear hn
  obtain ⟨i0, hi, hi0, hi1, hi2⟩ := info_parts info_PatS
  have I := Lib.hid hi; have I0 := Lib.hid hi0; have I1 := Lib.hid hi1; have I2 := Lib.hid hi2
  clear hi hi0 hi1 hi2
  go_enter Tryz.func74, Tryz.ntmps74
  go_wp2_with (at_make; refine wpList_make_full _ rfl _ _ _ rfl w.heap.size 83 i0 _ 1 Tryz.underlying72 I.out I0.out I1.out _ _ _ _ n rfl rfl rfl rfl (by rw [I2.out]; omega) (by unfold maxLen; omega) (Nat.le_refl _) ?_; intro w1 hO hgw)
  have hb1 : Below w.heap.size w w1 := (Below.refl w.heap.size w).grown (row := none) hgw (Nat.le_refl _) (by simp)
  have hs1 : w.heap.size < w1.heap.size := (own_base hO _ rfl).2
  have O1 : FillO 83 1 GPat.O w.heap.size w1 w.heap.size n 0 [] x := FillO.made hO x
  replace O1 := Lib.hid O1
  clear hO hgw
  go_loopw [4] (fun i wr => ∃ (k : Nat) (ps : List (List Nat)), k ≤ n ∧ i = .int .i64 k ∧ Below w.heap.size w wr ∧ w.heap.size + 1 ≤ wr.heap.size ∧ Hid (FillO 83 1 GPat.O w.heap.size wr w.heap.size n k ps x) ∧ Hid (ps.flatten.Nodup) ∧ Hid (∀ b ∈ ps.flatten, w.heap.size + 1 ≤ b ∧ b < wr.heap.size)) (fun i _ => n - (intOf i).toNat)
  case atStart => exact ⟨0, [], by omega, rfl, hb1, by omega, O1, List.nodup_nil, fun b h => by cases h⟩
  case round =>
    clear hs1 hb1 O1
    obtain ⟨k, ps, hk, rfl, hw, hz, hO, hN, hL⟩ := hrel
    by_cases hlt : k < n
    · obtain ⟨b1, o1, p, s1, _, rfl, P1, q1, r1⟩ := (hh.below GPat.good hw).get X1 hlt
      have Q1 := q1
      obtain ⟨s0, rfl, _, _⟩ := q1
      have R1 : wr.cell? ⟨b1, o1 + k, none⟩ = some (s0) := (by simpa using r1 0 _ rfl)
      clear r1
      go_wp2_with (go_at_call 105; refine (toPat_o p _ _ (hle P1.out) _ Q1).mono ?_; rintro e w2 ⟨r2, p2, rfl, q3, hnd2, hfr2, hb2⟩; have Q3 := Lib.hid q3; obtain ⟨t0, rfl, hwf0, g0⟩ := q3; obtain ⟨at0, ct0, rfl⟩ := g0.form; clear g0; have hA2 := ((hO.out.below GPat.ok hb2).arr (by omega)).2.2; have hO2 := Lib.hid (hO.out.below GPat.ok hb2); have hw2 := hw.trans (hb2.mono hw.size); have hz2 := hb2.size; have hl2 := GPat.ok.lt Q3.out; replace hl2 := Lib.hid hl2; replace hfr2 := Lib.hid hfr2; replace hnd2 := Lib.hid hnd2; clear hb2 hw hO R1; obtain ⟨d0, e0, f0⟩ := hA2 (k) (by omega))
      have hl2' : ∀ b ∈ (p2 : List Nat), b < w2.heap.size := hl2.out
      have hf2' : ∀ b ∈ (p2 : List Nat), wr.heap.size ≤ b := hfr2.out
      go_roundw
      case rel => exact ⟨k + 1, ps ++ [p2], by omega, by go_num, hw2.trans (below_storeRow w.heap.size [.slice at0 p.nodes.length ct0] w2 (k)), Nat.le_trans hz (Nat.le_trans hz2 (Nat.le_of_eq (size_storeRow w.heap.size [.slice at0 p.nodes.length ct0] w2 (k)).symm)),
        (hO2.out.step GPat.ok hlt (off := k) (r := [.slice at0 p.nodes.length ct0]) (by omega) P1.out rfl Q3.out (fun h => by have := hL.out _ h; omega) (fun h => by have := hf2' _ h; omega)),
        by show (ps ++ [p2]).flatten.Nodup; rw [List.flatten_append, List.flatten_singleton]; exact List.nodup_append.2 ⟨hN.out, hnd2.out, fun b h b2 h2 e => by subst e; have := hL.out _ h; have := hf2' _ h2; omega⟩,
        fun b h => by
          rw [List.flatten_append, List.flatten_singleton] at h
          rcases List.mem_append.1 h with h | h
          · have := hL.out _ h; exact ⟨this.1, Nat.lt_of_lt_of_le this.2 (Nat.le_trans hz2 (Nat.le_of_eq (size_storeRow w.heap.size [.slice at0 p.nodes.length ct0] w2 (k)).symm))⟩
          · have h1 := hf2' _ h; have h2 := hl2' _ h; exact ⟨by omega, Nat.lt_of_lt_of_le h2 (Nat.le_of_eq (size_storeRow w.heap.size [.slice at0 p.nodes.length ct0] w2 (k)).symm)⟩⟩
      case measure => simp [intOf]; omega
    · go_wp2
      go_returns
      obtain rfl : k = n := by omega
      exact ⟨_, _, rfl, (hO.out.full X1.out).slO, List.nodup_cons.2 ⟨fun h => by have := (hL.out _ h).1; dsimp only at this; omega, hN.out⟩, fun b h => by
        rcases List.mem_cons.1 h with h | h
        · dsimp only at h; omega
        · have := (hL.out _ h).1; omega, hw⟩

end Go.Proofs.YtaimekaagmcmnaaGreat

/- What the laws' to functions make of Ins is the call's own: printed by gen_footto.py. -/
namespace Go.Proofs.YtaimekaagmcmnaaGreat
open Go.RowKit
set_option linter.unusedVariables false
set_option linter.unusedSimpArgs false
attribute [local go_sem] Ext.cell

end Go.Proofs.YtaimekaagmcmnaaGreat

/- Copies of code: slices.Clone; a pattern's copy. -/
namespace Go.Proofs.YtaimekaagmcmnaaGreat
open Go.RowKit
set_option linter.unusedVariables false
set_option linter.unusedSimpArgs false
attribute [local go_sem] Ext.cell

theorem info_IntQ : (Tryz.prog.info? 3).map (fun i => (i.zero, i.size, i.bytes)) = some (some (.int .i64 0), 1, 8) := by kernel_rfl
theorem info_PNodeQ : (Tryz.prog.info? 111).map (fun i => (i.zero, i.size, i.bytes)) = some (some (.agg #[.int .i64 0, .int .i64 0, .string ⟨#[]⟩, .slice none 0 0]), 4, 56) := by kernel_rfl
theorem info_PatQ : (Tryz.prog.info? 83).map (fun i => (i.zero, i.size, i.bytes)) = some (some (.agg #[.slice none 0 0]), 1, 24) := by kernel_rfl
theorem OwnF.slO {α : Type} {R : Reading α} {sz : Nat} {f : α → List Value} {wf : α → Prop} {e : TypeId} {lo : Nat} {w : World} {v : Value} {xs : List α} (F : Flat R sz f wf) (h : OwnF e sz f wf lo w v xs) :
    ∃ bs, SlO e sz (FlatO f wf) bs w v xs ∧ bs.Nodup ∧ ∀ b ∈ bs, lo ≤ b := by
  have hp : (xs.map fun _ => ([] : List Nat)).flatten = [] := by
    induction xs with
    | nil => rfl
    | cons x xs ih => simp
  have hG : GrowO e sz (FlatO f wf) lo w v (xs.map fun _ => []) xs := ⟨xs.map f, h.1, ⟨by simp, by simp, fun r hr => by obtain ⟨x, _, rfl⟩ := List.mem_map.1 hr; exact F.len x, fun i p r x h1 h2 h3 => by
    rw [List.getElem?_map, h3] at h1 h2
    simp at h1 h2
    exact ⟨by first | exact h1 | exact h1.symm, by first | exact h2 | exact h2.symm, h.2 x (List.mem_of_getElem? h3)⟩⟩⟩
  refine ⟨_, hG.slO, ?_, fun b hb => ?_⟩
  · unfold fpO
    rw [hp, List.append_nil]
    cases v.ownBlock with
    | none => exact List.nodup_nil
    | some g => simp
  · rw [mem_fpO, hp] at hb
    rcases hb with hb | hb
    · exact (own_base h.1 b hb).1
    · cases hb

theorem slice_none' {α : Type} {R : Reading α} {sz lo : Nat} {w : World} {xs : List α} (h : SlAt R sz lo w none xs) : xs = [] := by
  rcases Nat.eq_zero_or_pos xs.length with h0 | h0
  · exact List.length_eq_zero_iff.1 h0
  · obtain ⟨b, off, _, ha, _⟩ := h h0
    cases ha

theorem list_choice {α : Type} {P : Nat → α → Prop} : ∀ n : Nat, (∀ i, i < n → ∃ p, P i p) → ∃ ps : List α, ps.length = n ∧ ∀ i p, ps[i]? = some p → P i p
  | 0, _ => ⟨[], rfl, fun i p h => by simp at h⟩
  | n + 1, h => by
    obtain ⟨ps, h1, h2⟩ := list_choice n fun i hi => h i (by omega)
    obtain ⟨q, hq⟩ := h n (by omega)
    refine ⟨ps ++ [q], by simp [h1], fun i p hp => ?_⟩
    rcases Nat.lt_trichotomy i n with hi | hi | hi
    · rw [List.getElem?_append_left (by omega)] at hp; exact h2 i p hp
    · subst hi
      rw [List.getElem?_append_right (by omega), h1, Nat.sub_self] at hp
      simp at hp; subst hp; exact hq
    · rw [List.getElem?_eq_none (by simp [h1]; omega)] at hp; cases hp
def PRow : Type := GPNode × Option Addr × Nat
def prow (p : PRow) : List Value := [.int .i64 p.1.kind, .int .i64 p.1.n, .string p.1.s, .slice p.2.1 p.1.kids.length p.2.2]
def pwf (p : PRow) : Prop := p.1.wf
def PRowR : Reading PRow := fun _ _ r p => r = prow p ∧ pwf p
theorem flatP : Flat PRowR 4 prow pwf := ⟨fun h => h, fun h _ _ => ⟨rfl, h⟩, fun _ => rfl, fun _ u hu => by simp [prow] at hu; rcases hu with rfl | rfl | rfl | rfl <;> rfl, by decide⟩
theorem sl_rows {lo : Nat} {w : World} {v : Value} {xs : List GPNode} (h : Sl GPNode.R 4 lo w v xs) : ∃ ps : List PRow, ps.map (·.1) = xs ∧ Sl PRowR 4 lo w v ps ∧ ∀ p ∈ ps, Sl IntR 1 lo w (.slice p.2.1 p.1.kids.length p.2.2) p.1.kids := by
  obtain ⟨a, c, rfl, h1, h2, h3⟩ := h
  by_cases h0 : 0 < xs.length
  · obtain ⟨b, off, h4, rfl, h6⟩ := h3 h0
    have hx : ∀ (i : Nat) x, xs[i]? = some x → ∃ p : PRow, p.1 = x ∧ pwf p ∧ RowAt w b (off + i * 4) (prow p) ∧ Sl IntR 1 lo w (.slice p.2.1 p.1.kids.length p.2.2) p.1.kids := fun i x hx => by
      obtain ⟨r, ⟨u0, rfl, hwf, s0⟩, hr⟩ := h6 i x hx
      obtain ⟨ka, kc, rfl⟩ := s0.form
      exact ⟨(x, ka, kc), rfl, hwf, hr, s0⟩
    obtain ⟨ps, hl, hat⟩ := list_choice (P := fun i p => ∃ x, xs[i]? = some x ∧ p.1 = x ∧ pwf p ∧ RowAt w b (off + i * 4) (prow p) ∧ Sl IntR 1 lo w (.slice p.2.1 p.1.kids.length p.2.2) p.1.kids) xs.length (fun i hi => by
      obtain ⟨p, hp⟩ := hx i _ (List.getElem?_eq_getElem hi)
      exact ⟨p, _, List.getElem?_eq_getElem hi, hp⟩)
    refine ⟨ps, List.ext_getElem? fun i => ?_, ⟨_, c, by rw [hl], by rw [hl]; exact h1, h2, fun _ => ⟨b, off, h4, rfl, fun i p hp => ?_⟩⟩, fun p hp => ?_⟩
    · rw [List.getElem?_map]
      cases hp : ps[i]? with
      | none => rw [List.getElem?_eq_none (by rw [← hl]; exact List.getElem?_eq_none_iff.1 hp)]; rfl
      | some p => obtain ⟨x, h8, h9, _⟩ := hat i p hp; rw [h8, ← h9]; rfl
    · obtain ⟨x, h8, h9, h10, h11, _⟩ := hat i p hp
      exact ⟨prow p, ⟨rfl, h10⟩, h11⟩
    · obtain ⟨i, hi, rfl⟩ := List.getElem_of_mem hp
      obtain ⟨x, _, _, _, _, h12⟩ := hat i _ (List.getElem?_eq_getElem hi)
      exact h12
  · obtain rfl : xs = [] := List.length_eq_zero_iff.1 (by omega)
    exact ⟨[], rfl, ⟨a, c, rfl, Nat.zero_le _, h2, fun h => absurd h (by simp)⟩, fun p hp => by cases hp⟩

set_option maxRecDepth 100000 in
set_option maxHeartbeats 1000000 in
theorem cloneInt_o (xs : List Int) (u : Value) (lo : Nat) (hlen : xs.length ≤ 1048576) (w : World) (hu : Sl IntR 1 lo w u xs) :
    Calls Tryz.prog 168 #[u] w fun e w' => ∃ v, e = .returned v ∧ OwnF 3 1 intRow I64 w.heap.size w' v xs ∧ Below w.heap.size w w' := by
  have Hu := hu
  obtain ⟨a, c, rfl, l1, m1, hh⟩ := hu
  obtain ⟨i0, hi0, hz0, hz1, hz2⟩ := info_parts info_IntQ
  have qn : ∀ (w : World) (a : Option Addr) (n c n' c' : Nat), (binOp .eql 59 (.slice a n c) (.slice none n' c')).run Tryz.prog w = .ok (.bool a.isNone) w := fun w a n c n' c' => Lib.run_eql_slice_nil w _ _ a n c n' c' Tryz.underlying59
  have I := Lib.hid hi0; have I0 := Lib.hid hz0; have I1 := Lib.hid hz1; have I2 := Lib.hid hz2
  clear hi0 hz0 hz1 hz2
  cases a with
  | none =>
    obtain rfl : xs = [] := slice_none' hh
    clear Hu hh
    simp only [List.length_nil]
    go_enter Tryz.func168, Tryz.ntmps168
    go_wp2_with fail
    go_returns
    exact ⟨_, rfl, OwnF.empty, by go_grown⟩
  | some a =>
    have hO := own_new w #[] 3 1 0 rfl (by unfold maxLen; omega) w.heap.size (Nat.le_refl _)
    replace Hu := Lib.hid Hu
    generalize hn : xs.length = n at *
    replace hn := Lib.hid hn
    clear hh
    go_enter Tryz.func168, Tryz.ntmps168
    go_wp2_with (at_builtin; refine wpList_append_sl _ flatInt rfl _ _ _ rfl w.heap.size 3 i0 _ 8 Tryz.underlying59 I.out I0.out I1.out I2.out rfl w.heap.size 0 0 [] rfl hO lo _ xs rfl (Hu.out.below IntR.good (by go_grown)) (by rw [hn.out]; unfold maxLen; omega) (by rw [hn.out]; omega) (by simp) ?_; rw [hn.out]; intro g cap w2 hown hgrow hg)
    have hb2 : Below w.heap.size w w2 := below_grown (by go_grown) (by simp) hO hgrow
    go_returns
    refine ⟨_, rfl, ⟨?_, flatInt.wfs Hu.out⟩, hb2⟩
    rw [hn.out]
    simpa using hown

set_option maxRecDepth 100000 in
set_option maxHeartbeats 1000000 in
theorem clonePNode_o (xs : List PRow) (u : Value) (lo : Nat) (hlen : xs.length ≤ 1048576) (w : World) (hu : Sl PRowR 4 lo w u xs) :
    Calls Tryz.prog 167 #[u] w fun e w' => ∃ v, e = .returned v ∧ OwnF 111 4 prow pwf w.heap.size w' v xs ∧ Below w.heap.size w w' := by
  have Hu := hu
  have hgood : PRowR.Good := ⟨fun h _ => h, fun h _ => h⟩
  obtain ⟨a, c, rfl, l1, m1, hh⟩ := hu
  obtain ⟨i0, hi0, hz0, hz1, hz2⟩ := info_parts info_PNodeQ
  have qn : ∀ (w : World) (a : Option Addr) (n c n' c' : Nat), (binOp .eql 81 (.slice a n c) (.slice none n' c')).run Tryz.prog w = .ok (.bool a.isNone) w := fun w a n c n' c' => Lib.run_eql_slice_nil w _ _ a n c n' c' Tryz.underlying81
  have I := Lib.hid hi0; have I0 := Lib.hid hz0; have I1 := Lib.hid hz1; have I2 := Lib.hid hz2
  clear hi0 hz0 hz1 hz2
  cases a with
  | none =>
    obtain rfl : xs = [] := slice_none' hh
    clear Hu hh
    simp only [List.length_nil]
    go_enter Tryz.func167, Tryz.ntmps167
    go_wp2_with fail
    go_returns
    exact ⟨_, rfl, OwnF.empty, by go_grown⟩
  | some a =>
    have hO := own_new w #[] 111 4 0 rfl (by unfold maxLen; omega) w.heap.size (Nat.le_refl _)
    replace Hu := Lib.hid Hu
    generalize hn : xs.length = n at *
    replace hn := Lib.hid hn
    clear hh
    go_enter Tryz.func167, Tryz.ntmps167
    go_wp2_with (at_builtin; refine wpList_append_sl _ flatP rfl _ _ _ rfl w.heap.size 111 i0 _ 56 Tryz.underlying81 I.out I0.out I1.out I2.out rfl w.heap.size 0 0 [] rfl hO lo _ xs rfl (Hu.out.below hgood (by go_grown)) (by rw [hn.out]; unfold maxLen; omega) (by rw [hn.out]; omega) (by simp) ?_; rw [hn.out]; intro g cap w2 hown hgrow hg)
    have hb2 : Below w.heap.size w w2 := below_grown (by go_grown) (by simp) hO hgrow
    go_returns
    refine ⟨_, rfl, ⟨?_, flatP.wfs Hu.out⟩, hb2⟩
    rw [hn.out]
    simpa using hown

end Go.Proofs.YtaimekaagmcmnaaGreat
