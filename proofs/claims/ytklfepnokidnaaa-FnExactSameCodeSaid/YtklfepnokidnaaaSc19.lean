/- Parts of the proof, merged: FtPNode, FtPat, FtCode. -/
import Derived.OwnWalk
import Derived.Test.YtklfepnokidnaaaSc18
/- What the laws' to functions make of PNode is the call's own: printed by gen_footto.py. -/
namespace Go.Proofs.Ytklfepnokidnaaa
open Go.RowKit
set_option linter.unusedVariables false
set_option linter.unusedSimpArgs false
attribute [local go_sem] Ext.cell

set_option maxRecDepth 100000 in
set_option maxHeartbeats 2000000 in
theorem toPNode_o (x : GPNode) (r : List Value) (lo : Nat) (hl : x.bulk ≤ 1048576) (w : World) (hx : GPNode.R lo w r x) :
    Calls Try.prog 76 #[.agg r.toArray] w fun e w' => ∃ r' bs, e = .returned (.agg r'.toArray) ∧ GPNode.O bs w' r' x ∧ bs.Nodup ∧ (∀ b ∈ bs, w.heap.size ≤ b) ∧ Below w.heap.size w w' := by
  obtain ⟨x0, x1, x2, x3⟩ := x
  obtain ⟨u0, rfl, ⟨wx0, wx1, wx2⟩, a0⟩ := hx
  dsimp only at *
  have z2 := size_nonneg x2
  have z3 := length_nonneg x3
  simp only [GPNode.bulk] at hl
  go_enter Try.func76, Try.ntmps76
  go_wp2_with (first | (go_at_call 85; ((with_reducible refine (toIntS_o x3 u0 lo ?_ _ ?_).mono ?_); omega; exact a0.below IntR.good (by go_grown); rintro e w1 ⟨v0, p0, rfl, c0, d0, fr0, hb⟩; have hf0 : ∀ b ∈ p0, w.heap.size + 3 ≤ b := (fun b h => Nat.le_trans (by (try simp only [World.size_alloc, World.size_setCell, World.size_drew]); omega) (fr0 b h)); obtain ⟨av0, cv0, rfl⟩ := c0.form; clear fr0; have hw : Below w.heap.size w w1 := Below.trans (by go_grown) (hb.mono (by go_grown)); obtain ⟨hc, hf⟩ := bcell hb; have hz := hw.size; have hz1 := hb.size; have hs0 : w.heap.size < w1.heap.size := (by have h := hz1; (try simp only [World.size_alloc, World.size_setCell, World.size_drew] at h); omega); have hs1 : w.heap.size + 1 < w1.heap.size := (by have h := hz1; (try simp only [World.size_alloc, World.size_setCell, World.size_drew] at h); omega); have hs2 : w.heap.size + 1 + 1 < w1.heap.size := (by have h := hz1; (try simp only [World.size_alloc, World.size_setCell, World.size_drew] at h); omega); clear hb)))
  refine bodyPost_ret (v := .agg #[.int .i64 x0, .int .i64 x1, .string x2, .slice av0 x3.length cv0]) (by simp [results, Try.results76, go_sem, *]) rfl ?_
  refine ⟨[.int .i64 x0, .int .i64 x1, .string x2, .slice av0 x3.length cv0], p0, rfl, ⟨_, rfl, ⟨wx0, wx1, wx2⟩, (c0.kept (flatO_ok flatInt) (S := fun b => b < w.heap.size + 3) (by repeat' (first | with_reducible exact Kept.refl _ _ | with_reducible refine Kept.set ?_ ?_ _ | (dsimp only; omega))) (fun b h hs => by have := hf0 b h; omega))⟩, d0, fun b h => (by have := hf0 b h; omega), by go_grown⟩

set_option maxRecDepth 100000 in
set_option maxHeartbeats 2000000 in
theorem toPNodeS_o (x : List GPNode) (u : Value) (lo : Nat) (hlen : bulkS GPNode.bulk x ≤ 1048576) (w : World) (hx : Sl GPNode.R 4 lo w u x) :
    Calls Try.prog 59 #[u] w fun e w' => ∃ v bs, e = .returned v ∧ SlO 77 4 GPNode.O bs w' v x ∧ bs.Nodup ∧ (∀ b ∈ bs, w.heap.size ≤ b) ∧ Below w.heap.size w w' := by
  obtain ⟨a1, c1, rfl, l1, m1, hh⟩ := hx
  obtain ⟨n, hn⟩ : ∃ n, n = x.length := ⟨_, rfl⟩
  have hlen1 : x.length ≤ 1048576 := by have := length_le_bulkS (f := GPNode.bulk) GPNode.bulk_nonneg x; omega
  have hle : ∀ {k : Nat} {p : GPNode}, x[k]? = some p → GPNode.bulk p ≤ 1048576 := fun hp => by have := le_bulkS (f := GPNode.bulk) GPNode.bulk_nonneg hp; omega
  clear hlen
  rw [← hn] at l1 hlen1 ⊢
  have X1 := Lib.hid hn
  clear hn
  obtain ⟨i0, hi, hi0, hi1, hi2⟩ := info_parts info_PNodeS
  have I := Lib.hid hi; have I0 := Lib.hid hi0; have I1 := Lib.hid hi1; have I2 := Lib.hid hi2
  clear hi hi0 hi1 hi2
  go_enter Try.func59, Try.ntmps59
  go_wp2_with (at_make; refine wpList_make_full _ rfl _ _ _ rfl w.heap.size 77 i0 _ 4 Try.underlying39 I.out I0.out I1.out _ _ _ _ n rfl rfl rfl rfl (by rw [I2.out]; omega) (by unfold maxLen; omega) (Nat.le_refl _) ?_; intro w1 hO hgw)
  have hb1 : Below w.heap.size w w1 := (Below.refl w.heap.size w).grown (row := none) hgw (Nat.le_refl _) (by simp)
  have hs1 : w.heap.size < w1.heap.size := (own_base hO _ rfl).2
  have O1 : FillO 77 4 GPNode.O w.heap.size w1 w.heap.size n 0 [] x := FillO.made hO x
  replace O1 := Lib.hid O1
  clear hO hgw
  go_loopw [4] (fun i wr => ∃ (k : Nat) (ps : List (List Nat)), k ≤ n ∧ i = .int .i64 k ∧ Below w.heap.size w wr ∧ w.heap.size + 1 ≤ wr.heap.size ∧ Hid (FillO 77 4 GPNode.O w.heap.size wr w.heap.size n k ps x) ∧ Hid (ps.flatten.Nodup) ∧ Hid (∀ b ∈ ps.flatten, w.heap.size + 1 ≤ b ∧ b < wr.heap.size)) (fun i _ => n - (intOf i).toNat)
  case atStart => exact ⟨0, [], by omega, rfl, hb1, by omega, O1, List.nodup_nil, fun b h => by cases h⟩
  case round =>
    clear hs1 hb1 O1
    obtain ⟨k, ps, hk, rfl, hw, hz, hO, hN, hL⟩ := hrel
    by_cases hlt : k < n
    · obtain ⟨b1, o1, p, s1, _, rfl, P1, q1, r1⟩ := (hh.below GPNode.good hw).get X1 hlt
      have Q1 := q1
      obtain ⟨s0, rfl, _, _⟩ := q1
      have R1 : wr.cell? ⟨b1, o1 + k * 4, none⟩ = some (.int .i64 p.kind) ∧ wr.cell? ⟨b1, o1 + k * 4 + 1, none⟩ = some (.int .i64 p.n) ∧ wr.cell? ⟨b1, o1 + k * 4 + 2, none⟩ = some (.string p.s) ∧ wr.cell? ⟨b1, o1 + k * 4 + 3, none⟩ = some (s0) := ⟨by simpa using r1 0 _ rfl, by simpa using r1 1 _ rfl, by simpa using r1 2 _ rfl, by simpa using r1 3 _ rfl⟩
      clear r1
      go_wp2_with (go_at_call 76; refine (toPNode_o p _ _ (hle P1.out) _ Q1).mono ?_; rintro e w2 ⟨r2, p2, rfl, q3, hnd2, hfr2, hb2⟩; have Q3 := Lib.hid q3; obtain ⟨t0, rfl, hwf0, g0⟩ := q3; obtain ⟨at0, ct0, rfl⟩ := g0.form; clear g0; have hA2 := ((hO.out.below GPNode.ok hb2).arr (by omega)).2.2; have hO2 := Lib.hid (hO.out.below GPNode.ok hb2); have hw2 := hw.trans (hb2.mono hw.size); have hz2 := hb2.size; have hl2 := GPNode.ok.lt Q3.out; replace hl2 := Lib.hid hl2; replace hfr2 := Lib.hid hfr2; replace hnd2 := Lib.hid hnd2; clear hb2 hw hO R1; obtain ⟨d0, e0, f0⟩ := hA2 (k * 4) (by omega); obtain ⟨d1, e1, f1⟩ := hA2 (k * 4 + 1) (by omega); obtain ⟨d2, e2, f2⟩ := hA2 (k * 4 + 2) (by omega); obtain ⟨d3, e3, f3⟩ := hA2 (k * 4 + 3) (by omega))
      have hl2' : ∀ b ∈ (p2 : List Nat), b < w2.heap.size := hl2.out
      have hf2' : ∀ b ∈ (p2 : List Nat), wr.heap.size ≤ b := hfr2.out
      go_roundw
      case rel => exact ⟨k + 1, ps ++ [p2], by omega, by go_num, hw2.trans (below_storeRow w.heap.size [.int .i64 p.kind, .int .i64 p.n, .string p.s, .slice at0 p.kids.length ct0] w2 (k * 4)), Nat.le_trans hz (Nat.le_trans hz2 (Nat.le_of_eq (size_storeRow w.heap.size [.int .i64 p.kind, .int .i64 p.n, .string p.s, .slice at0 p.kids.length ct0] w2 (k * 4)).symm)),
        (hO2.out.step GPNode.ok hlt (off := k * 4) (r := [.int .i64 p.kind, .int .i64 p.n, .string p.s, .slice at0 p.kids.length ct0]) (by omega) P1.out rfl Q3.out (fun h => by have := hL.out _ h; omega) (fun h => by have := hf2' _ h; omega)),
        by show (ps ++ [p2]).flatten.Nodup; rw [List.flatten_append, List.flatten_singleton]; exact List.nodup_append.2 ⟨hN.out, hnd2.out, fun b h b2 h2 e => by subst e; have := hL.out _ h; have := hf2' _ h2; omega⟩,
        fun b h => by
          rw [List.flatten_append, List.flatten_singleton] at h
          rcases List.mem_append.1 h with h | h
          · have := hL.out _ h; exact ⟨this.1, Nat.lt_of_lt_of_le this.2 (Nat.le_trans hz2 (Nat.le_of_eq (size_storeRow w.heap.size [.int .i64 p.kind, .int .i64 p.n, .string p.s, .slice at0 p.kids.length ct0] w2 (k * 4)).symm))⟩
          · have h1 := hf2' _ h; have h2 := hl2' _ h; exact ⟨by omega, Nat.lt_of_lt_of_le h2 (Nat.le_of_eq (size_storeRow w.heap.size [.int .i64 p.kind, .int .i64 p.n, .string p.s, .slice at0 p.kids.length ct0] w2 (k * 4)).symm)⟩⟩
      case measure => simp [intOf]; omega
    · go_wp2
      go_returns
      obtain rfl : k = n := by omega
      exact ⟨_, _, rfl, (hO.out.full X1.out).slO, List.nodup_cons.2 ⟨fun h => by have := (hL.out _ h).1; dsimp only at this; omega, hN.out⟩, fun b h => by
        rcases List.mem_cons.1 h with h | h
        · dsimp only at h; omega
        · have := (hL.out _ h).1; omega, hw⟩

end Go.Proofs.Ytklfepnokidnaaa

/- What the laws' to functions make of Pat is the call's own: printed by gen_footto.py. -/
namespace Go.Proofs.Ytklfepnokidnaaa
open Go.RowKit
set_option linter.unusedVariables false
set_option linter.unusedSimpArgs false
attribute [local go_sem] Ext.cell

set_option maxRecDepth 100000 in
set_option maxHeartbeats 2000000 in
theorem toPat_o (x : GPat) (r : List Value) (lo : Nat) (hl : x.bulk ≤ 1048576) (w : World) (hx : GPat.R lo w r x) :
    Calls Try.prog 32 #[.agg r.toArray] w fun e w' => ∃ r' bs, e = .returned (.agg r'.toArray) ∧ GPat.O bs w' r' x ∧ bs.Nodup ∧ (∀ b ∈ bs, w.heap.size ≤ b) ∧ Below w.heap.size w w' := by
  obtain ⟨x0⟩ := x
  obtain ⟨u0, rfl, _, a0⟩ := hx
  dsimp only at *
  have z0 := bulkS_nonneg GPNode.bulk_nonneg x0
  simp only [GPat.bulk] at hl
  go_enter Try.func32, Try.ntmps32
  go_wp2_with (first | (go_at_call 59; ((with_reducible refine (toPNodeS_o x0 u0 lo ?_ _ ?_).mono ?_); omega; exact a0.below GPNode.good (by go_grown); rintro e w1 ⟨v0, p0, rfl, c0, d0, fr0, hb⟩; have hf0 : ∀ b ∈ p0, w.heap.size + 3 ≤ b := (fun b h => Nat.le_trans (by (try simp only [World.size_alloc, World.size_setCell, World.size_drew]); omega) (fr0 b h)); obtain ⟨av0, cv0, rfl⟩ := c0.form; clear fr0; have hw : Below w.heap.size w w1 := Below.trans (by go_grown) (hb.mono (by go_grown)); obtain ⟨hc, hf⟩ := bcell hb; have hz := hw.size; have hz1 := hb.size; have hs0 : w.heap.size < w1.heap.size := (by have h := hz1; (try simp only [World.size_alloc, World.size_setCell, World.size_drew] at h); omega); have hs1 : w.heap.size + 1 < w1.heap.size := (by have h := hz1; (try simp only [World.size_alloc, World.size_setCell, World.size_drew] at h); omega); have hs2 : w.heap.size + 1 + 1 < w1.heap.size := (by have h := hz1; (try simp only [World.size_alloc, World.size_setCell, World.size_drew] at h); omega); clear hb)))
  refine bodyPost_ret (v := .agg #[.slice av0 x0.length cv0]) (by simp [results, Try.results32, go_sem, *]) rfl ?_
  refine ⟨[.slice av0 x0.length cv0], p0, rfl, ⟨_, rfl, trivial, (c0.kept GPNode.ok (S := fun b => b < w.heap.size + 3) (by repeat' (first | with_reducible exact Kept.refl _ _ | with_reducible refine Kept.set ?_ ?_ _ | (dsimp only; omega))) (fun b h hs => by have := hf0 b h; omega))⟩, d0, fun b h => (by have := hf0 b h; omega), by go_grown⟩

set_option maxRecDepth 100000 in
set_option maxHeartbeats 2000000 in
theorem toPatS_o (x : List GPat) (u : Value) (lo : Nat) (hlen : bulkS GPat.bulk x ≤ 1048576) (w : World) (hx : Sl GPat.R 1 lo w u x) :
    Calls Try.prog 15 #[u] w fun e w' => ∃ v bs, e = .returned v ∧ SlO 41 1 GPat.O bs w' v x ∧ bs.Nodup ∧ (∀ b ∈ bs, w.heap.size ≤ b) ∧ Below w.heap.size w w' := by
  obtain ⟨a1, c1, rfl, l1, m1, hh⟩ := hx
  obtain ⟨n, hn⟩ : ∃ n, n = x.length := ⟨_, rfl⟩
  have hlen1 : x.length ≤ 1048576 := by have := length_le_bulkS (f := GPat.bulk) GPat.bulk_nonneg x; omega
  have hle : ∀ {k : Nat} {p : GPat}, x[k]? = some p → GPat.bulk p ≤ 1048576 := fun hp => by have := le_bulkS (f := GPat.bulk) GPat.bulk_nonneg hp; omega
  clear hlen
  rw [← hn] at l1 hlen1 ⊢
  have X1 := Lib.hid hn
  clear hn
  obtain ⟨i0, hi, hi0, hi1, hi2⟩ := info_parts info_PatS
  have I := Lib.hid hi; have I0 := Lib.hid hi0; have I1 := Lib.hid hi1; have I2 := Lib.hid hi2
  clear hi hi0 hi1 hi2
  go_enter Try.func15, Try.ntmps15
  go_wp2_with (at_make; refine wpList_make_full _ rfl _ _ _ rfl w.heap.size 41 i0 _ 1 Try.underlying29 I.out I0.out I1.out _ _ _ _ n rfl rfl rfl rfl (by rw [I2.out]; omega) (by unfold maxLen; omega) (Nat.le_refl _) ?_; intro w1 hO hgw)
  have hb1 : Below w.heap.size w w1 := (Below.refl w.heap.size w).grown (row := none) hgw (Nat.le_refl _) (by simp)
  have hs1 : w.heap.size < w1.heap.size := (own_base hO _ rfl).2
  have O1 : FillO 41 1 GPat.O w.heap.size w1 w.heap.size n 0 [] x := FillO.made hO x
  replace O1 := Lib.hid O1
  clear hO hgw
  go_loopw [4] (fun i wr => ∃ (k : Nat) (ps : List (List Nat)), k ≤ n ∧ i = .int .i64 k ∧ Below w.heap.size w wr ∧ w.heap.size + 1 ≤ wr.heap.size ∧ Hid (FillO 41 1 GPat.O w.heap.size wr w.heap.size n k ps x) ∧ Hid (ps.flatten.Nodup) ∧ Hid (∀ b ∈ ps.flatten, w.heap.size + 1 ≤ b ∧ b < wr.heap.size)) (fun i _ => n - (intOf i).toNat)
  case atStart => exact ⟨0, [], by omega, rfl, hb1, by omega, O1, List.nodup_nil, fun b h => by cases h⟩
  case round =>
    clear hs1 hb1 O1
    obtain ⟨k, ps, hk, rfl, hw, hz, hO, hN, hL⟩ := hrel
    by_cases hlt : k < n
    · obtain ⟨b1, o1, p, s1, _, rfl, P1, q1, r1⟩ := (hh.below GPat.good hw).get X1 hlt
      have Q1 := q1
      obtain ⟨s0, rfl, _, _⟩ := q1
      have R1 : wr.cell? ⟨b1, o1 + k, none⟩ = some (s0) := (by simpa using r1 0 _ rfl)
      clear r1
      go_wp2_with (go_at_call 32; refine (toPat_o p _ _ (hle P1.out) _ Q1).mono ?_; rintro e w2 ⟨r2, p2, rfl, q3, hnd2, hfr2, hb2⟩; have Q3 := Lib.hid q3; obtain ⟨t0, rfl, hwf0, g0⟩ := q3; obtain ⟨at0, ct0, rfl⟩ := g0.form; clear g0; have hA2 := ((hO.out.below GPat.ok hb2).arr (by omega)).2.2; have hO2 := Lib.hid (hO.out.below GPat.ok hb2); have hw2 := hw.trans (hb2.mono hw.size); have hz2 := hb2.size; have hl2 := GPat.ok.lt Q3.out; replace hl2 := Lib.hid hl2; replace hfr2 := Lib.hid hfr2; replace hnd2 := Lib.hid hnd2; clear hb2 hw hO R1; obtain ⟨d0, e0, f0⟩ := hA2 (k) (by omega))
      have hl2' : ∀ b ∈ (p2 : List Nat), b < w2.heap.size := hl2.out
      have hf2' : ∀ b ∈ (p2 : List Nat), wr.heap.size ≤ b := hfr2.out
      go_roundw
      case rel => exact ⟨k + 1, ps ++ [p2], by omega, by go_num, hw2.trans (below_storeRow w.heap.size [.slice at0 p.nodes.length ct0] w2 (k)), Nat.le_trans hz (Nat.le_trans hz2 (Nat.le_of_eq (size_storeRow w.heap.size [.slice at0 p.nodes.length ct0] w2 (k)).symm)),
        (hO2.out.step GPat.ok hlt (off := k) (r := [.slice at0 p.nodes.length ct0]) (by omega) P1.out rfl Q3.out (fun h => by have := hL.out _ h; omega) (fun h => by have := hf2' _ h; omega)),
        by show (ps ++ [p2]).flatten.Nodup; rw [List.flatten_append, List.flatten_singleton]; exact List.nodup_append.2 ⟨hN.out, hnd2.out, fun b h b2 h2 e => by subst e; have := hL.out _ h; have := hf2' _ h2; omega⟩,
        fun b h => by
          rw [List.flatten_append, List.flatten_singleton] at h
          rcases List.mem_append.1 h with h | h
          · have := hL.out _ h; exact ⟨this.1, Nat.lt_of_lt_of_le this.2 (Nat.le_trans hz2 (Nat.le_of_eq (size_storeRow w.heap.size [.slice at0 p.nodes.length ct0] w2 (k)).symm))⟩
          · have h1 := hf2' _ h; have h2 := hl2' _ h; exact ⟨by omega, Nat.lt_of_lt_of_le h2 (Nat.le_of_eq (size_storeRow w.heap.size [.slice at0 p.nodes.length ct0] w2 (k)).symm)⟩⟩
      case measure => simp [intOf]; omega
    · go_wp2
      go_returns
      obtain rfl : k = n := by omega
      exact ⟨_, _, rfl, (hO.out.full X1.out).slO, List.nodup_cons.2 ⟨fun h => by have := (hL.out _ h).1; dsimp only at this; omega, hN.out⟩, fun b h => by
        rcases List.mem_cons.1 h with h | h
        · dsimp only at h; omega
        · have := (hL.out _ h).1; omega, hw⟩

end Go.Proofs.Ytklfepnokidnaaa

/- What the laws' to functions make of Code is the call's own: printed by gen_footto.py. -/
namespace Go.Proofs.Ytklfepnokidnaaa
open Go.RowKit
set_option linter.unusedVariables false
set_option linter.unusedSimpArgs false
attribute [local go_sem] Ext.cell

set_option maxRecDepth 100000 in
set_option maxHeartbeats 2000000 in
theorem toCode_o (x : GCode) (r : List Value) (lo : Nat) (hl : x.bulk ≤ 1048576) (w : World) (hx : GCode.R lo w r x) :
    Calls Try.prog 6 #[.agg r.toArray] w fun e w' => ∃ r' bs, e = .returned (.agg r'.toArray) ∧ GCode.O bs w' r' x ∧ bs.Nodup ∧ (∀ b ∈ bs, w.heap.size ≤ b) ∧ Below w.heap.size w w' := by
  obtain ⟨x0, x1⟩ := x
  obtain ⟨u0, u1, rfl, _, a0, a1⟩ := hx
  dsimp only at *
  have z0 := bulkS_nonneg GIns.bulk_nonneg x0
  have z1 := bulkS_nonneg GPat.bulk_nonneg x1
  simp only [GCode.bulk] at hl
  go_enter Try.func6, Try.ntmps6
  go_wp2_with (first | (go_at_call 14; ((with_reducible refine (toInsS_o x0 u0 lo ?_ _ ?_).mono ?_); omega; exact a0.below GIns.good (by go_grown); rintro e w1 ⟨v0, p0, rfl, c0, d0, fr0, hb⟩; have hf0 : ∀ b ∈ p0, w.heap.size + 3 ≤ b := (fun b h => Nat.le_trans (by (try simp only [World.size_alloc, World.size_setCell, World.size_drew]); omega) (fr0 b h)); obtain ⟨av0, cv0, rfl⟩ := c0.form; clear fr0; have hw : Below w.heap.size w w1 := Below.trans (by go_grown) (hb.mono (by go_grown)); obtain ⟨hc, hf⟩ := bcell hb; have hz := hw.size; have hz1 := hb.size; have hs0 : w.heap.size < w1.heap.size := (by have h := hz1; (try simp only [World.size_alloc, World.size_setCell, World.size_drew] at h); omega); have hs1 : w.heap.size + 1 < w1.heap.size := (by have h := hz1; (try simp only [World.size_alloc, World.size_setCell, World.size_drew] at h); omega); have hs2 : w.heap.size + 1 + 1 < w1.heap.size := (by have h := hz1; (try simp only [World.size_alloc, World.size_setCell, World.size_drew] at h); omega); clear hb)) | (go_at_call 15; ((with_reducible refine (toPatS_o x1 u1 lo ?_ _ ?_).mono ?_); omega; exact a1.below GPat.good (by go_grown); rintro e w1 ⟨v1, p1, rfl, c1, d1, fr1, hb⟩; have gt0 := c0.lt GIns.ok; have c0 := SlO.below GIns.ok (SlO.kept GIns.ok (S := fun b => b < w.heap.size + 3) c0 (by repeat' (first | with_reducible exact Kept.refl _ _ | with_reducible refine Kept.set ?_ ?_ _ | (dsimp only; omega))) (fun b h hs => by have := hf0 b h; omega)) hb; have x0_1 : ∀ b ∈ p1, b ∉ p0 := (fun b h h2 => by have h3 := fr1 b h; have h4 := gt0 b h2; (try simp only [World.size_alloc, World.size_setCell, World.size_drew] at h3); omega); have hf1 : ∀ b ∈ p1, w.heap.size + 3 ≤ b := (fun b h => Nat.le_trans (by (try simp only [World.size_alloc, World.size_setCell, World.size_drew]); omega) (fr1 b h)); obtain ⟨av1, cv1, rfl⟩ := c1.form; clear fr1; have hw : Below w.heap.size w w1 := Below.trans (by go_grown) (hb.mono (by go_grown)); obtain ⟨hc, hf⟩ := bcell hb; have hz := hw.size; have hz1 := hb.size; have hs0 : w.heap.size < w1.heap.size := (by have h := hz1; (try simp only [World.size_alloc, World.size_setCell, World.size_drew] at h); omega); have hs1 : w.heap.size + 1 < w1.heap.size := (by have h := hz1; (try simp only [World.size_alloc, World.size_setCell, World.size_drew] at h); omega); have hs2 : w.heap.size + 1 + 1 < w1.heap.size := (by have h := hz1; (try simp only [World.size_alloc, World.size_setCell, World.size_drew] at h); omega); clear hb)))
  refine bodyPost_ret (v := .agg #[.slice av0 x0.length cv0, .slice av1 x1.length cv1]) (by simp [results, Try.results6, go_sem, *]) rfl ?_
  refine ⟨[.slice av0 x0.length cv0, .slice av1 x1.length cv1], p0 ++ p1, rfl, ⟨_, p0, _, p1, rfl, rfl, trivial, (c0.kept GIns.ok (S := fun b => b < w.heap.size + 3) (by repeat' (first | with_reducible exact Kept.refl _ _ | with_reducible refine Kept.set ?_ ?_ _ | (dsimp only; omega))) (fun b h hs => by have := hf0 b h; omega)), (c1.kept GPat.ok (S := fun b => b < w.heap.size + 3) (by repeat' (first | with_reducible exact Kept.refl _ _ | with_reducible refine Kept.set ?_ ?_ _ | (dsimp only; omega))) (fun b h hs => by have := hf1 b h; omega))⟩, List.nodup_append.2 ⟨d0, d1, fun b h b2 h2 e => x0_1 b2 h2 (e ▸ h)⟩, fun b h => (by rcases List.mem_append.1 h with h | h; (have := hf0 b h; omega); (have := hf1 b h; omega)), by go_grown⟩

end Go.Proofs.Ytklfepnokidnaaa
