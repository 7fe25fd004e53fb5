/- Parts of the proof, merged: FtCon, FtType, FtNode, FtProgram, MarkOwnString. -/
import Derived.OwnWalk
import Derived.Test.YtaimekaagmcmnaaGreatNe50
namespace Go.Proofs.YtaimekaagmcmnaaGreat
open Go.RowKit
set_option linter.unusedVariables false
set_option linter.unusedSimpArgs false
attribute [local go_sem] Ext.cell

set_option maxRecDepth 100000 in
set_option maxHeartbeats 2000000 in
theorem toCon_o (x : GCon) (r : List Value) (lo : Nat) (hl : x.bulk ≤ 1048576) (w : World) (hx : GCon.R lo w r x) :
    Calls Tryz.prog 104 #[.agg r.toArray] w fun e w' => ∃ r' bs, e = .returned (.agg r'.toArray) ∧ GCon.O bs w' r' x ∧ bs.Nodup ∧ (∀ b ∈ bs, w.heap.size ≤ b) ∧ Below w.heap.size w w' := by
  obtain ⟨x0, x1, ⟨x2⟩⟩ := x
  obtain ⟨u0, rfl, wx0, a0⟩ := hx
  dsimp only at *
  have z0 := size_nonneg x0
  have z2 := bulkS_nonneg GTyItem.bulk_nonneg x2
  simp only [GCon.bulk] at hl
  try simp only [GTy.bulk] at hl
  go_enter Tryz.func104, Tryz.ntmps104
  go_wp2_with (first | (go_at_call 126; ((with_reducible refine (toTy_o ⟨x2⟩ [u0] lo ?_ _ ?_).mono ?_); (simp only [GTy.bulk]; omega); exact ⟨_, rfl, trivial, a0.below GTyItem.good (by go_grown)⟩; rintro e w1 ⟨r1, p0, rfl, ⟨v0, rfl, -, c0⟩, d0, fr0, hb⟩; have hf0 : ∀ b ∈ p0, w.heap.size + 3 ≤ b := (fun b h => Nat.le_trans (by (try simp only [World.size_alloc, World.size_setCell, World.size_drew]); omega) (fr0 b h)); obtain ⟨av0, cv0, rfl⟩ := c0.form; clear fr0; have hw : Below w.heap.size w w1 := Below.trans (by go_grown) (hb.mono (by go_grown)); obtain ⟨hc, hf⟩ := bcell hb; have hz := hw.size; have hz1 := hb.size; have hs0 : w.heap.size < w1.heap.size := (by have h := hz1; (try simp only [World.size_alloc, World.size_setCell, World.size_drew] at h); omega); have hs1 : w.heap.size + 1 < w1.heap.size := (by have h := hz1; (try simp only [World.size_alloc, World.size_setCell, World.size_drew] at h); omega); have hs2 : w.heap.size + 1 + 1 < w1.heap.size := (by have h := hz1; (try simp only [World.size_alloc, World.size_setCell, World.size_drew] at h); omega); clear hb)))
  refine bodyPost_ret (v := .agg #[.string x0, .bool x1, .slice av0 x2.length cv0]) (by simp [results, Tryz.results104, go_sem, *]) rfl ?_
  refine ⟨[.string x0, .bool x1, .slice av0 x2.length cv0], p0, rfl, ⟨_, rfl, wx0, (c0.kept GTyItem.ok (S := fun b => b < w.heap.size + 3) (by repeat' (first | with_reducible exact Kept.refl _ _ | with_reducible refine Kept.set ?_ ?_ _ | (dsimp only; omega))) (fun b h hs => by have := hf0 b h; omega))⟩, d0, fun b h => (by have := hf0 b h; omega), by go_grown⟩

set_option maxRecDepth 100000 in
set_option maxHeartbeats 2000000 in
theorem toConS_o (x : List GCon) (u : Value) (lo : Nat) (hlen : bulkS GCon.bulk x ≤ 1048576) (w : World) (hx : Sl GCon.R 3 lo w u x) :
    Calls Tryz.prog 72 #[u] w fun e w' => ∃ v bs, e = .returned v ∧ SlO 70 3 GCon.O bs w' v x ∧ bs.Nodup ∧ (∀ b ∈ bs, w.heap.size ≤ b) ∧ Below w.heap.size w w' := by
  obtain ⟨a1, c1, rfl, l1, m1, hh⟩ := hx
  obtain ⟨n, hn⟩ : ∃ n, n = x.length := ⟨_, rfl⟩
  have hlen1 : x.length ≤ 1048576 := by have := length_le_bulkS (f := GCon.bulk) GCon.bulk_nonneg x; omega
  have hle : ∀ {k : Nat} {p : GCon}, x[k]? = some p → GCon.bulk p ≤ 1048576 := fun hp => by have := le_bulkS (f := GCon.bulk) GCon.bulk_nonneg hp; omega
  clear hlen
  rw [← hn] at l1 hlen1 ⊢
  have X1 := Lib.hid hn
  clear hn
  obtain ⟨i0, hi, hi0, hi1, hi2⟩ := info_parts info_ConS
  have I := Lib.hid hi; have I0 := Lib.hid hi0; have I1 := Lib.hid hi1; have I2 := Lib.hid hi2
  clear hi hi0 hi1 hi2
  go_enter Tryz.func72, Tryz.ntmps72
  go_wp2_with (at_make; refine wpList_make_full _ rfl _ _ _ rfl w.heap.size 70 i0 _ 3 Tryz.underlying63 I.out I0.out I1.out _ _ _ _ n rfl rfl rfl rfl (by rw [I2.out]; omega) (by unfold maxLen; omega) (Nat.le_refl _) ?_; intro w1 hO hgw)
  have hb1 : Below w.heap.size w w1 := (Below.refl w.heap.size w).grown (row := none) hgw (Nat.le_refl _) (by simp)
  have hs1 : w.heap.size < w1.heap.size := (own_base hO _ rfl).2
  have O1 : FillO 70 3 GCon.O w.heap.size w1 w.heap.size n 0 [] x := FillO.made hO x
  replace O1 := Lib.hid O1
  clear hO hgw
  go_loopw [4] (fun i wr => ∃ (k : Nat) (ps : List (List Nat)), k ≤ n ∧ i = .int .i64 k ∧ Below w.heap.size w wr ∧ w.heap.size + 1 ≤ wr.heap.size ∧ Hid (FillO 70 3 GCon.O w.heap.size wr w.heap.size n k ps x) ∧ Hid (ps.flatten.Nodup) ∧ Hid (∀ b ∈ ps.flatten, w.heap.size + 1 ≤ b ∧ b < wr.heap.size)) (fun i _ => n - (intOf i).toNat)
  case atStart => exact ⟨0, [], by omega, rfl, hb1, by omega, O1, List.nodup_nil, fun b h => by cases h⟩
  case round =>
    clear hs1 hb1 O1
    obtain ⟨k, ps, hk, rfl, hw, hz, hO, hN, hL⟩ := hrel
    by_cases hlt : k < n
    · obtain ⟨b1, o1, p, s1, _, rfl, P1, q1, r1⟩ := (hh.below GCon.good hw).get X1 hlt
      have Q1 := q1
      obtain ⟨s0, rfl, _, _⟩ := q1
      have R1 : wr.cell? ⟨b1, o1 + k * 3, none⟩ = some (.string p.name) ∧ wr.cell? ⟨b1, o1 + k * 3 + 1, none⟩ = some (.bool p.has) ∧ wr.cell? ⟨b1, o1 + k * 3 + 2, none⟩ = some (s0) := ⟨by simpa using r1 0 _ rfl, by simpa using r1 1 _ rfl, by simpa using r1 2 _ rfl⟩
      clear r1
      go_wp2_with (go_at_call 104; refine (toCon_o p _ _ (hle P1.out) _ Q1).mono ?_; rintro e w2 ⟨r2, p2, rfl, q3, hnd2, hfr2, hb2⟩; have Q3 := Lib.hid q3; obtain ⟨t0, rfl, hwf0, g0⟩ := q3; obtain ⟨at0, ct0, rfl⟩ := g0.form; clear g0; have hA2 := ((hO.out.below GCon.ok hb2).arr (by omega)).2.2; have hO2 := Lib.hid (hO.out.below GCon.ok hb2); have hw2 := hw.trans (hb2.mono hw.size); have hz2 := hb2.size; have hl2 := GCon.ok.lt Q3.out; replace hl2 := Lib.hid hl2; replace hfr2 := Lib.hid hfr2; replace hnd2 := Lib.hid hnd2; clear hb2 hw hO R1; obtain ⟨d0, e0, f0⟩ := hA2 (k * 3) (by omega); obtain ⟨d1, e1, f1⟩ := hA2 (k * 3 + 1) (by omega); obtain ⟨d2, e2, f2⟩ := hA2 (k * 3 + 2) (by omega))
      have hl2' : ∀ b ∈ (p2 : List Nat), b < w2.heap.size := hl2.out
      have hf2' : ∀ b ∈ (p2 : List Nat), wr.heap.size ≤ b := hfr2.out
      go_roundw
      case rel => exact ⟨k + 1, ps ++ [p2], by omega, by go_num, hw2.trans (below_storeRow w.heap.size [.string p.name, .bool p.has, .slice at0 p.arg.items.length ct0] w2 (k * 3)), Nat.le_trans hz (Nat.le_trans hz2 (Nat.le_of_eq (size_storeRow w.heap.size [.string p.name, .bool p.has, .slice at0 p.arg.items.length ct0] w2 (k * 3)).symm)),
        (hO2.out.step GCon.ok hlt (off := k * 3) (r := [.string p.name, .bool p.has, .slice at0 p.arg.items.length ct0]) (by omega) P1.out rfl Q3.out (fun h => by have := hL.out _ h; omega) (fun h => by have := hf2' _ h; omega)),
        by show (ps ++ [p2]).flatten.Nodup; rw [List.flatten_append, List.flatten_singleton]; exact List.nodup_append.2 ⟨hN.out, hnd2.out, fun b h b2 h2 e => by subst e; have := hL.out _ h; have := hf2' _ h2; omega⟩,
        fun b h => by
          rw [List.flatten_append, List.flatten_singleton] at h
          rcases List.mem_append.1 h with h | h
          · have := hL.out _ h; exact ⟨this.1, Nat.lt_of_lt_of_le this.2 (Nat.le_trans hz2 (Nat.le_of_eq (size_storeRow w.heap.size [.string p.name, .bool p.has, .slice at0 p.arg.items.length ct0] w2 (k * 3)).symm))⟩
          · have h1 := hf2' _ h; have h2 := hl2' _ h; exact ⟨by omega, Nat.lt_of_lt_of_le h2 (Nat.le_of_eq (size_storeRow w.heap.size [.string p.name, .bool p.has, .slice at0 p.arg.items.length ct0] w2 (k * 3)).symm)⟩⟩
      case measure => simp [intOf]; omega
    · go_wp2
      go_returns
      obtain rfl : k = n := by omega
      exact ⟨_, _, rfl, (hO.out.full X1.out).slO, List.nodup_cons.2 ⟨fun h => by have := (hL.out _ h).1; dsimp only at this; omega, hN.out⟩, fun b h => by
        rcases List.mem_cons.1 h with h | h
        · dsimp only at h; omega
        · have := (hL.out _ h).1; omega, hw⟩

set_option maxRecDepth 100000 in
set_option maxHeartbeats 2000000 in
theorem toType_o (x : GType) (r : List Value) (lo : Nat) (hl : x.bulk ≤ 1048576) (w : World) (hx : GType.R lo w r x) :
    Calls Tryz.prog 41 #[.agg r.toArray] w fun e w' => ∃ r' bs, e = .returned (.agg r'.toArray) ∧ GType.O bs w' r' x ∧ bs.Nodup ∧ (∀ b ∈ bs, w.heap.size ≤ b) ∧ Below w.heap.size w w' := by
  obtain ⟨x0, x1, x2⟩ := x
  obtain ⟨u0, rfl, ⟨wx0, wx1⟩, a0⟩ := hx
  dsimp only at *
  have z0 := size_nonneg x0
  have z2 := bulkS_nonneg GCon.bulk_nonneg x2
  simp only [GType.bulk] at hl
  go_enter Tryz.func41, Tryz.ntmps41
  go_wp2_with (first | (go_at_call 72; ((with_reducible refine (toConS_o x2 u0 lo ?_ _ ?_).mono ?_); omega; exact a0.below GCon.good (by go_grown); rintro e w1 ⟨v0, p0, rfl, c0, d0, fr0, hb⟩; have hf0 : ∀ b ∈ p0, w.heap.size + 3 ≤ b := (fun b h => Nat.le_trans (by (try simp only [World.size_alloc, World.size_setCell, World.size_drew]); omega) (fr0 b h)); obtain ⟨av0, cv0, rfl⟩ := c0.form; clear fr0; have hw : Below w.heap.size w w1 := Below.trans (by go_grown) (hb.mono (by go_grown)); obtain ⟨hc, hf⟩ := bcell hb; have hz := hw.size; have hz1 := hb.size; have hs0 : w.heap.size < w1.heap.size := (by have h := hz1; (try simp only [World.size_alloc, World.size_setCell, World.size_drew] at h); omega); have hs1 : w.heap.size + 1 < w1.heap.size := (by have h := hz1; (try simp only [World.size_alloc, World.size_setCell, World.size_drew] at h); omega); have hs2 : w.heap.size + 1 + 1 < w1.heap.size := (by have h := hz1; (try simp only [World.size_alloc, World.size_setCell, World.size_drew] at h); omega); clear hb)))
  refine bodyPost_ret (v := .agg #[.string x0, .int .i64 x1, .slice av0 x2.length cv0]) (by simp [results, Tryz.results41, go_sem, *]) rfl ?_
  refine ⟨[.string x0, .int .i64 x1, .slice av0 x2.length cv0], p0, rfl, ⟨_, rfl, ⟨wx0, wx1⟩, (c0.kept GCon.ok (S := fun b => b < w.heap.size + 3) (by repeat' (first | with_reducible exact Kept.refl _ _ | with_reducible refine Kept.set ?_ ?_ _ | (dsimp only; omega))) (fun b h hs => by have := hf0 b h; omega))⟩, d0, fun b h => (by have := hf0 b h; omega), by go_grown⟩

set_option maxRecDepth 100000 in
set_option maxHeartbeats 2000000 in
theorem toTypeS_o (x : List GType) (u : Value) (lo : Nat) (hlen : bulkS GType.bulk x ≤ 1048576) (w : World) (hx : Sl GType.R 3 lo w u x) :
    Calls Tryz.prog 19 #[u] w fun e w' => ∃ v bs, e = .returned v ∧ SlO 65 3 GType.O bs w' v x ∧ bs.Nodup ∧ (∀ b ∈ bs, w.heap.size ≤ b) ∧ Below w.heap.size w w' := by
  obtain ⟨a1, c1, rfl, l1, m1, hh⟩ := hx
  obtain ⟨n, hn⟩ : ∃ n, n = x.length := ⟨_, rfl⟩
  have hlen1 : x.length ≤ 1048576 := by have := length_le_bulkS (f := GType.bulk) GType.bulk_nonneg x; omega
  have hle : ∀ {k : Nat} {p : GType}, x[k]? = some p → GType.bulk p ≤ 1048576 := fun hp => by have := le_bulkS (f := GType.bulk) GType.bulk_nonneg hp; omega
  clear hlen
  rw [← hn] at l1 hlen1 ⊢
  have X1 := Lib.hid hn
  clear hn
  obtain ⟨i0, hi, hi0, hi1, hi2⟩ := info_parts info_TypeS
  have I := Lib.hid hi; have I0 := Lib.hid hi0; have I1 := Lib.hid hi1; have I2 := Lib.hid hi2
  clear hi hi0 hi1 hi2
  go_enter Tryz.func19, Tryz.ntmps19
  go_wp2_with (at_make; refine wpList_make_full _ rfl _ _ _ rfl w.heap.size 65 i0 _ 3 Tryz.underlying29 I.out I0.out I1.out _ _ _ _ n rfl rfl rfl rfl (by rw [I2.out]; omega) (by unfold maxLen; omega) (Nat.le_refl _) ?_; intro w1 hO hgw)
  have hb1 : Below w.heap.size w w1 := (Below.refl w.heap.size w).grown (row := none) hgw (Nat.le_refl _) (by simp)
  have hs1 : w.heap.size < w1.heap.size := (own_base hO _ rfl).2
  have O1 : FillO 65 3 GType.O w.heap.size w1 w.heap.size n 0 [] x := FillO.made hO x
  replace O1 := Lib.hid O1
  clear hO hgw
  go_loopw [4] (fun i wr => ∃ (k : Nat) (ps : List (List Nat)), k ≤ n ∧ i = .int .i64 k ∧ Below w.heap.size w wr ∧ w.heap.size + 1 ≤ wr.heap.size ∧ Hid (FillO 65 3 GType.O w.heap.size wr w.heap.size n k ps x) ∧ Hid (ps.flatten.Nodup) ∧ Hid (∀ b ∈ ps.flatten, w.heap.size + 1 ≤ b ∧ b < wr.heap.size)) (fun i _ => n - (intOf i).toNat)
  case atStart => exact ⟨0, [], by omega, rfl, hb1, by omega, O1, List.nodup_nil, fun b h => by cases h⟩
  case round =>
    clear hs1 hb1 O1
    obtain ⟨k, ps, hk, rfl, hw, hz, hO, hN, hL⟩ := hrel
    by_cases hlt : k < n
    · obtain ⟨b1, o1, p, s1, _, rfl, P1, q1, r1⟩ := (hh.below GType.good hw).get X1 hlt
      have Q1 := q1
      obtain ⟨s0, rfl, _, _⟩ := q1
      have R1 : wr.cell? ⟨b1, o1 + k * 3, none⟩ = some (.string p.name) ∧ wr.cell? ⟨b1, o1 + k * 3 + 1, none⟩ = some (.int .i64 p.params) ∧ wr.cell? ⟨b1, o1 + k * 3 + 2, none⟩ = some (s0) := ⟨by simpa using r1 0 _ rfl, by simpa using r1 1 _ rfl, by simpa using r1 2 _ rfl⟩
      clear r1
      go_wp2_with (go_at_call 41; refine (toType_o p _ _ (hle P1.out) _ Q1).mono ?_; rintro e w2 ⟨r2, p2, rfl, q3, hnd2, hfr2, hb2⟩; have Q3 := Lib.hid q3; obtain ⟨t0, rfl, hwf0, g0⟩ := q3; obtain ⟨at0, ct0, rfl⟩ := g0.form; clear g0; have hA2 := ((hO.out.below GType.ok hb2).arr (by omega)).2.2; have hO2 := Lib.hid (hO.out.below GType.ok hb2); have hw2 := hw.trans (hb2.mono hw.size); have hz2 := hb2.size; have hl2 := GType.ok.lt Q3.out; replace hl2 := Lib.hid hl2; replace hfr2 := Lib.hid hfr2; replace hnd2 := Lib.hid hnd2; clear hb2 hw hO R1; obtain ⟨d0, e0, f0⟩ := hA2 (k * 3) (by omega); obtain ⟨d1, e1, f1⟩ := hA2 (k * 3 + 1) (by omega); obtain ⟨d2, e2, f2⟩ := hA2 (k * 3 + 2) (by omega))
      have hl2' : ∀ b ∈ (p2 : List Nat), b < w2.heap.size := hl2.out
      have hf2' : ∀ b ∈ (p2 : List Nat), wr.heap.size ≤ b := hfr2.out
      go_roundw
      case rel => exact ⟨k + 1, ps ++ [p2], by omega, by go_num, hw2.trans (below_storeRow w.heap.size [.string p.name, .int .i64 p.params, .slice at0 p.cons.length ct0] w2 (k * 3)), Nat.le_trans hz (Nat.le_trans hz2 (Nat.le_of_eq (size_storeRow w.heap.size [.string p.name, .int .i64 p.params, .slice at0 p.cons.length ct0] w2 (k * 3)).symm)),
        (hO2.out.step GType.ok hlt (off := k * 3) (r := [.string p.name, .int .i64 p.params, .slice at0 p.cons.length ct0]) (by omega) P1.out rfl Q3.out (fun h => by have := hL.out _ h; omega) (fun h => by have := hf2' _ h; omega)),
        by show (ps ++ [p2]).flatten.Nodup; rw [List.flatten_append, List.flatten_singleton]; exact List.nodup_append.2 ⟨hN.out, hnd2.out, fun b h b2 h2 e => by subst e; have := hL.out _ h; have := hf2' _ h2; omega⟩,
        fun b h => by
          rw [List.flatten_append, List.flatten_singleton] at h
          rcases List.mem_append.1 h with h | h
          · have := hL.out _ h; exact ⟨this.1, Nat.lt_of_lt_of_le this.2 (Nat.le_trans hz2 (Nat.le_of_eq (size_storeRow w.heap.size [.string p.name, .int .i64 p.params, .slice at0 p.cons.length ct0] w2 (k * 3)).symm))⟩
          · have h1 := hf2' _ h; have h2 := hl2' _ h; exact ⟨by omega, Nat.lt_of_lt_of_le h2 (Nat.le_of_eq (size_storeRow w.heap.size [.string p.name, .int .i64 p.params, .slice at0 p.cons.length ct0] w2 (k * 3)).symm)⟩⟩
      case measure => simp [intOf]; omega
    · go_wp2
      go_returns
      obtain rfl : k = n := by omega
      exact ⟨_, _, rfl, (hO.out.full X1.out).slO, List.nodup_cons.2 ⟨fun h => by have := (hL.out _ h).1; dsimp only at this; omega, hN.out⟩, fun b h => by
        rcases List.mem_cons.1 h with h | h
        · dsimp only at h; omega
        · have := (hL.out _ h).1; omega, hw⟩

set_option maxRecDepth 100000 in
set_option maxHeartbeats 2000000 in
theorem toNode_o (x : GNode) (r : List Value) (lo : Nat) (hl : x.bulk ≤ 1048576) (w : World) (hx : GNode.R lo w r x) :
    Calls Tryz.prog 42 #[.agg r.toArray] w fun e w' => ∃ r' bs, e = .returned (.agg r'.toArray) ∧ GNode.O bs w' r' x ∧ bs.Nodup ∧ (∀ b ∈ bs, w.heap.size ≤ b) ∧ Below w.heap.size w w' := by
  obtain ⟨x0, x1, x2, x3, x4, x5⟩ := x
  obtain ⟨u0, u1, rfl, ⟨wx0, wx1, wx2, wx3⟩, a0, a1⟩ := hx
  dsimp only at *
  have z3 := size_nonneg x3
  have z4 := length_nonneg x4
  have z5 := bulkS_nonneg GPat.bulk_nonneg x5
  simp only [GNode.bulk] at hl
  go_enter Tryz.func42, Tryz.ntmps42
  go_wp2_with (first | (go_at_call 73; ((with_reducible refine (toIntS_o x4 u0 lo ?_ _ ?_).mono ?_); omega; exact a0.below IntR.good (by go_grown); rintro e w1 ⟨v0, p0, rfl, c0, d0, fr0, hb⟩; have hf0 : ∀ b ∈ p0, w.heap.size + 3 ≤ b := (fun b h => Nat.le_trans (by (try simp only [World.size_alloc, World.size_setCell, World.size_drew]); omega) (fr0 b h)); obtain ⟨av0, cv0, rfl⟩ := c0.form; clear fr0; have hw : Below w.heap.size w w1 := Below.trans (by go_grown) (hb.mono (by go_grown)); obtain ⟨hc, hf⟩ := bcell hb; have hz := hw.size; have hz1 := hb.size; have hs0 : w.heap.size < w1.heap.size := (by have h := hz1; (try simp only [World.size_alloc, World.size_setCell, World.size_drew] at h); omega); have hs1 : w.heap.size + 1 < w1.heap.size := (by have h := hz1; (try simp only [World.size_alloc, World.size_setCell, World.size_drew] at h); omega); have hs2 : w.heap.size + 1 + 1 < w1.heap.size := (by have h := hz1; (try simp only [World.size_alloc, World.size_setCell, World.size_drew] at h); omega); clear hb)) | (go_at_call 74; ((with_reducible refine (toPatS_o x5 u1 lo ?_ _ ?_).mono ?_); omega; exact a1.below GPat.good (by go_grown); rintro e w1 ⟨v1, p1, rfl, c1, d1, fr1, hb⟩; have gt0 := c0.lt (flatO_ok flatInt); have c0 := SlO.below (flatO_ok flatInt) (SlO.kept (flatO_ok flatInt) (S := fun b => b < w.heap.size + 3) c0 (by repeat' (first | with_reducible exact Kept.refl _ _ | with_reducible refine Kept.set ?_ ?_ _ | (dsimp only; omega))) (fun b h hs => by have := hf0 b h; omega)) hb; have x0_1 : ∀ b ∈ p1, b ∉ p0 := (fun b h h2 => by have h3 := fr1 b h; have h4 := gt0 b h2; (try simp only [World.size_alloc, World.size_setCell, World.size_drew] at h3); omega); have hf1 : ∀ b ∈ p1, w.heap.size + 3 ≤ b := (fun b h => Nat.le_trans (by (try simp only [World.size_alloc, World.size_setCell, World.size_drew]); omega) (fr1 b h)); obtain ⟨av1, cv1, rfl⟩ := c1.form; clear fr1; have hw : Below w.heap.size w w1 := Below.trans (by go_grown) (hb.mono (by go_grown)); obtain ⟨hc, hf⟩ := bcell hb; have hz := hw.size; have hz1 := hb.size; have hs0 : w.heap.size < w1.heap.size := (by have h := hz1; (try simp only [World.size_alloc, World.size_setCell, World.size_drew] at h); omega); have hs1 : w.heap.size + 1 < w1.heap.size := (by have h := hz1; (try simp only [World.size_alloc, World.size_setCell, World.size_drew] at h); omega); have hs2 : w.heap.size + 1 + 1 < w1.heap.size := (by have h := hz1; (try simp only [World.size_alloc, World.size_setCell, World.size_drew] at h); omega); clear hb)))
  refine bodyPost_ret (v := .agg #[.int .i64 x0, .int .i64 x1, .int .i64 x2, .string x3, .slice av0 x4.length cv0, .slice av1 x5.length cv1]) (by simp [results, Tryz.results42, go_sem, *]) rfl ?_
  refine ⟨[.int .i64 x0, .int .i64 x1, .int .i64 x2, .string x3, .slice av0 x4.length cv0, .slice av1 x5.length cv1], p0 ++ p1, rfl, ⟨_, p0, _, p1, rfl, rfl, ⟨wx0, wx1, wx2, wx3⟩, (c0.kept (flatO_ok flatInt) (S := fun b => b < w.heap.size + 3) (by repeat' (first | with_reducible exact Kept.refl _ _ | with_reducible refine Kept.set ?_ ?_ _ | (dsimp only; omega))) (fun b h hs => by have := hf0 b h; omega)), (c1.kept GPat.ok (S := fun b => b < w.heap.size + 3) (by repeat' (first | with_reducible exact Kept.refl _ _ | with_reducible refine Kept.set ?_ ?_ _ | (dsimp only; omega))) (fun b h hs => by have := hf1 b h; omega))⟩, List.nodup_append.2 ⟨d0, d1, fun b h b2 h2 e => x0_1 b2 h2 (e ▸ h)⟩, fun b h => (by rcases List.mem_append.1 h with h | h; (have := hf0 b h; omega); (have := hf1 b h; omega)), by go_grown⟩

set_option maxRecDepth 100000 in
set_option maxHeartbeats 2000000 in
theorem toNodeS_o (x : List GNode) (u : Value) (lo : Nat) (hlen : bulkS GNode.bulk x ≤ 1048576) (w : World) (hx : Sl GNode.R 6 lo w u x) :
    Calls Tryz.prog 20 #[u] w fun e w' => ∃ v bs, e = .returned v ∧ SlO 74 6 GNode.O bs w' v x ∧ bs.Nodup ∧ (∀ b ∈ bs, w.heap.size ≤ b) ∧ Below w.heap.size w w' := by
  obtain ⟨a1, c1, rfl, l1, m1, hh⟩ := hx
  obtain ⟨n, hn⟩ : ∃ n, n = x.length := ⟨_, rfl⟩
  have hlen1 : x.length ≤ 1048576 := by have := length_le_bulkS (f := GNode.bulk) GNode.bulk_nonneg x; omega
  have hle : ∀ {k : Nat} {p : GNode}, x[k]? = some p → GNode.bulk p ≤ 1048576 := fun hp => by have := le_bulkS (f := GNode.bulk) GNode.bulk_nonneg hp; omega
  clear hlen
  rw [← hn] at l1 hlen1 ⊢
  have X1 := Lib.hid hn
  clear hn
  obtain ⟨i0, hi, hi0, hi1, hi2⟩ := info_parts info_NodeS
  have I := Lib.hid hi; have I0 := Lib.hid hi0; have I1 := Lib.hid hi1; have I2 := Lib.hid hi2
  clear hi hi0 hi1 hi2
  go_enter Tryz.func20, Tryz.ntmps20
  go_wp2_with (at_make; refine wpList_make_full _ rfl _ _ _ rfl w.heap.size 74 i0 _ 6 Tryz.underlying30 I.out I0.out I1.out _ _ _ _ n rfl rfl rfl rfl (by rw [I2.out]; omega) (by unfold maxLen; omega) (Nat.le_refl _) ?_; intro w1 hO hgw)
  have hb1 : Below w.heap.size w w1 := (Below.refl w.heap.size w).grown (row := none) hgw (Nat.le_refl _) (by simp)
  have hs1 : w.heap.size < w1.heap.size := (own_base hO _ rfl).2
  have O1 : FillO 74 6 GNode.O w.heap.size w1 w.heap.size n 0 [] x := FillO.made hO x
  replace O1 := Lib.hid O1
  clear hO hgw
  go_loopw [4] (fun i wr => ∃ (k : Nat) (ps : List (List Nat)), k ≤ n ∧ i = .int .i64 k ∧ Below w.heap.size w wr ∧ w.heap.size + 1 ≤ wr.heap.size ∧ Hid (FillO 74 6 GNode.O w.heap.size wr w.heap.size n k ps x) ∧ Hid (ps.flatten.Nodup) ∧ Hid (∀ b ∈ ps.flatten, w.heap.size + 1 ≤ b ∧ b < wr.heap.size)) (fun i _ => n - (intOf i).toNat)
  case atStart => exact ⟨0, [], by omega, rfl, hb1, by omega, O1, List.nodup_nil, fun b h => by cases h⟩
  case round =>
    clear hs1 hb1 O1
    obtain ⟨k, ps, hk, rfl, hw, hz, hO, hN, hL⟩ := hrel
    by_cases hlt : k < n
    · obtain ⟨b1, o1, p, s1, _, rfl, P1, q1, r1⟩ := (hh.below GNode.good hw).get X1 hlt
      have Q1 := q1
      obtain ⟨s0, s1, rfl, _, _, _⟩ := q1
      have R1 : wr.cell? ⟨b1, o1 + k * 6, none⟩ = some (.int .i64 p.kind) ∧ wr.cell? ⟨b1, o1 + k * 6 + 1, none⟩ = some (.int .i64 p.at_) ∧ wr.cell? ⟨b1, o1 + k * 6 + 2, none⟩ = some (.int .i64 p.n) ∧ wr.cell? ⟨b1, o1 + k * 6 + 3, none⟩ = some (.string p.s) ∧ wr.cell? ⟨b1, o1 + k * 6 + 4, none⟩ = some (s0) ∧ wr.cell? ⟨b1, o1 + k * 6 + 5, none⟩ = some (s1) := ⟨by simpa using r1 0 _ rfl, by simpa using r1 1 _ rfl, by simpa using r1 2 _ rfl, by simpa using r1 3 _ rfl, by simpa using r1 4 _ rfl, by simpa using r1 5 _ rfl⟩
      clear r1
      go_wp2_with (go_at_call 42; refine (toNode_o p _ _ (hle P1.out) _ Q1).mono ?_; rintro e w2 ⟨r2, p2, rfl, q3, hnd2, hfr2, hb2⟩; have Q3 := Lib.hid q3; obtain ⟨t0, c0, t1, c1, rfl, hbs0, hwf0, g0, g1⟩ := q3; obtain ⟨at0, ct0, rfl⟩ := g0.form; clear g0; obtain ⟨at1, ct1, rfl⟩ := g1.form; clear g1; have hA2 := ((hO.out.below GNode.ok hb2).arr (by omega)).2.2; have hO2 := Lib.hid (hO.out.below GNode.ok hb2); have hw2 := hw.trans (hb2.mono hw.size); have hz2 := hb2.size; have hl2 := GNode.ok.lt Q3.out; replace hl2 := Lib.hid hl2; replace hfr2 := Lib.hid hfr2; replace hnd2 := Lib.hid hnd2; clear hb2 hw hO R1; obtain ⟨d0, e0, f0⟩ := hA2 (k * 6) (by omega); obtain ⟨d1, e1, f1⟩ := hA2 (k * 6 + 1) (by omega); obtain ⟨d2, e2, f2⟩ := hA2 (k * 6 + 2) (by omega); obtain ⟨d3, e3, f3⟩ := hA2 (k * 6 + 3) (by omega); obtain ⟨d4, e4, f4⟩ := hA2 (k * 6 + 4) (by omega); obtain ⟨d5, e5, f5⟩ := hA2 (k * 6 + 5) (by omega))
      have hl2' : ∀ b ∈ (p2 : List Nat), b < w2.heap.size := hl2.out
      have hf2' : ∀ b ∈ (p2 : List Nat), wr.heap.size ≤ b := hfr2.out
      go_roundw
      case rel => exact ⟨k + 1, ps ++ [p2], by omega, by go_num, hw2.trans (below_storeRow w.heap.size [.int .i64 p.kind, .int .i64 p.at_, .int .i64 p.n, .string p.s, .slice at0 p.kids.length ct0, .slice at1 p.pats.length ct1] w2 (k * 6)), Nat.le_trans hz (Nat.le_trans hz2 (Nat.le_of_eq (size_storeRow w.heap.size [.int .i64 p.kind, .int .i64 p.at_, .int .i64 p.n, .string p.s, .slice at0 p.kids.length ct0, .slice at1 p.pats.length ct1] w2 (k * 6)).symm)),
        (hO2.out.step GNode.ok hlt (off := k * 6) (r := [.int .i64 p.kind, .int .i64 p.at_, .int .i64 p.n, .string p.s, .slice at0 p.kids.length ct0, .slice at1 p.pats.length ct1]) (by omega) P1.out rfl Q3.out (fun h => by have := hL.out _ h; omega) (fun h => by have := hf2' _ h; omega)),
        by show (ps ++ [p2]).flatten.Nodup; rw [List.flatten_append, List.flatten_singleton]; exact List.nodup_append.2 ⟨hN.out, hnd2.out, fun b h b2 h2 e => by subst e; have := hL.out _ h; have := hf2' _ h2; omega⟩,
        fun b h => by
          rw [List.flatten_append, List.flatten_singleton] at h
          rcases List.mem_append.1 h with h | h
          · have := hL.out _ h; exact ⟨this.1, Nat.lt_of_lt_of_le this.2 (Nat.le_trans hz2 (Nat.le_of_eq (size_storeRow w.heap.size [.int .i64 p.kind, .int .i64 p.at_, .int .i64 p.n, .string p.s, .slice at0 p.kids.length ct0, .slice at1 p.pats.length ct1] w2 (k * 6)).symm))⟩
          · have h1 := hf2' _ h; have h2 := hl2' _ h; exact ⟨by omega, Nat.lt_of_lt_of_le h2 (Nat.le_of_eq (size_storeRow w.heap.size [.int .i64 p.kind, .int .i64 p.at_, .int .i64 p.n, .string p.s, .slice at0 p.kids.length ct0, .slice at1 p.pats.length ct1] w2 (k * 6)).symm)⟩⟩
      case measure => simp [intOf]; omega
    · go_wp2
      go_returns
      obtain rfl : k = n := by omega
      exact ⟨_, _, rfl, (hO.out.full X1.out).slO, List.nodup_cons.2 ⟨fun h => by have := (hL.out _ h).1; dsimp only at this; omega, hN.out⟩, fun b h => by
        rcases List.mem_cons.1 h with h | h
        · dsimp only at h; omega
        · have := (hL.out _ h).1; omega, hw⟩

set_option maxRecDepth 100000 in
set_option maxHeartbeats 2000000 in
theorem toProgram_o (x : GProgram) (r : List Value) (lo : Nat) (hl : x.bulk ≤ 1048576) (w : World) (hx : GProgram.R lo w r x) :
    Calls Tryz.prog 6 #[.agg r.toArray] w fun e w' => ∃ r' bs, e = .returned (.agg r'.toArray) ∧ GProgram.O bs w' r' x ∧ bs.Nodup ∧ (∀ b ∈ bs, w.heap.size ≤ b) ∧ Below w.heap.size w w' := by
  obtain ⟨x0, x1⟩ := x
  obtain ⟨u0, u1, rfl, _, a0, a1⟩ := hx
  dsimp only at *
  have z0 := bulkS_nonneg GType.bulk_nonneg x0
  have z1 := bulkS_nonneg GNode.bulk_nonneg x1
  simp only [GProgram.bulk] at hl
  go_enter Tryz.func6, Tryz.ntmps6
  go_wp2_with (first | (go_at_call 19; ((with_reducible refine (toTypeS_o x0 u0 lo ?_ _ ?_).mono ?_); omega; exact a0.below GType.good (by go_grown); rintro e w1 ⟨v0, p0, rfl, c0, d0, fr0, hb⟩; have hf0 : ∀ b ∈ p0, w.heap.size + 3 ≤ b := (fun b h => Nat.le_trans (by (try simp only [World.size_alloc, World.size_setCell, World.size_drew]); omega) (fr0 b h)); obtain ⟨av0, cv0, rfl⟩ := c0.form; clear fr0; have hw : Below w.heap.size w w1 := Below.trans (by go_grown) (hb.mono (by go_grown)); obtain ⟨hc, hf⟩ := bcell hb; have hz := hw.size; have hz1 := hb.size; have hs0 : w.heap.size < w1.heap.size := (by have h := hz1; (try simp only [World.size_alloc, World.size_setCell, World.size_drew] at h); omega); have hs1 : w.heap.size + 1 < w1.heap.size := (by have h := hz1; (try simp only [World.size_alloc, World.size_setCell, World.size_drew] at h); omega); have hs2 : w.heap.size + 1 + 1 < w1.heap.size := (by have h := hz1; (try simp only [World.size_alloc, World.size_setCell, World.size_drew] at h); omega); clear hb)) | (go_at_call 20; ((with_reducible refine (toNodeS_o x1 u1 lo ?_ _ ?_).mono ?_); omega; exact a1.below GNode.good (by go_grown); rintro e w1 ⟨v1, p1, rfl, c1, d1, fr1, hb⟩; have gt0 := c0.lt GType.ok; have c0 := SlO.below GType.ok (SlO.kept GType.ok (S := fun b => b < w.heap.size + 3) c0 (by repeat' (first | with_reducible exact Kept.refl _ _ | with_reducible refine Kept.set ?_ ?_ _ | (dsimp only; omega))) (fun b h hs => by have := hf0 b h; omega)) hb; have x0_1 : ∀ b ∈ p1, b ∉ p0 := (fun b h h2 => by have h3 := fr1 b h; have h4 := gt0 b h2; (try simp only [World.size_alloc, World.size_setCell, World.size_drew] at h3); omega); have hf1 : ∀ b ∈ p1, w.heap.size + 3 ≤ b := (fun b h => Nat.le_trans (by (try simp only [World.size_alloc, World.size_setCell, World.size_drew]); omega) (fr1 b h)); obtain ⟨av1, cv1, rfl⟩ := c1.form; clear fr1; have hw : Below w.heap.size w w1 := Below.trans (by go_grown) (hb.mono (by go_grown)); obtain ⟨hc, hf⟩ := bcell hb; have hz := hw.size; have hz1 := hb.size; have hs0 : w.heap.size < w1.heap.size := (by have h := hz1; (try simp only [World.size_alloc, World.size_setCell, World.size_drew] at h); omega); have hs1 : w.heap.size + 1 < w1.heap.size := (by have h := hz1; (try simp only [World.size_alloc, World.size_setCell, World.size_drew] at h); omega); have hs2 : w.heap.size + 1 + 1 < w1.heap.size := (by have h := hz1; (try simp only [World.size_alloc, World.size_setCell, World.size_drew] at h); omega); clear hb)))
  refine bodyPost_ret (v := .agg #[.slice av0 x0.length cv0, .slice av1 x1.length cv1]) (by simp [results, Tryz.results6, go_sem, *]) rfl ?_
  refine ⟨[.slice av0 x0.length cv0, .slice av1 x1.length cv1], p0 ++ p1, rfl, ⟨_, p0, _, p1, rfl, rfl, trivial, (c0.kept GType.ok (S := fun b => b < w.heap.size + 3) (by repeat' (first | with_reducible exact Kept.refl _ _ | with_reducible refine Kept.set ?_ ?_ _ | (dsimp only; omega))) (fun b h hs => by have := hf0 b h; omega)), (c1.kept GNode.ok (S := fun b => b < w.heap.size + 3) (by repeat' (first | with_reducible exact Kept.refl _ _ | with_reducible refine Kept.set ?_ ?_ _ | (dsimp only; omega))) (fun b h hs => by have := hf1 b h; omega))⟩, List.nodup_append.2 ⟨d0, d1, fun b h b2 h2 e => x0_1 b2 h2 (e ▸ h)⟩, fun b h => (by rcases List.mem_append.1 h with h | h; (have := hf0 b h; omega); (have := hf1 b h; omega)), by go_grown⟩

set_option maxHeartbeats 1000000 in
theorem markStringS_nil (z : Int) (w : World) :
    Calls Tryz.prog 11 #[.slice none 0 0, .int .i64 z] w fun e w' => e = .returned (.int .i64 z) ∧ Below w.heap.size w w' := by
  go_enter Tryz.func11, Tryz.ntmps11
  go_wp2_with fail
  go_loopw [1, 5] (fun kk i wr => kk = .int .i64 z ∧ i = .int .i64 0 ∧ Below w.heap.size w wr) (fun _ _ _ => 0)
  case atStart => exact ⟨rfl, rfl, Below.refl _ _⟩
  case round =>
    obtain ⟨rfl, rfl, hw⟩ := hrel
    go_wp2
    go_returns
    exact ⟨rfl, hw⟩
set_option maxHeartbeats 1000000 in
theorem heldStringS_nil (z : Int) (w : World) :
    Calls Tryz.prog 12 #[.slice none 0 0, .int .i64 z] w fun e w' => e = .returned (.int .i64 z) ∧ Below w.heap.size w w' := by
  go_enter Tryz.func12, Tryz.ntmps12
  go_wp2_with fail
  go_loopw [1, 5] (fun kk i wr => kk = .int .i64 z ∧ i = .int .i64 0 ∧ Below w.heap.size w wr) (fun _ _ _ => 0)
  case atStart => exact ⟨rfl, rfl, Below.refl _ _⟩
  case round =>
    obtain ⟨rfl, rfl, hw⟩ := hrel
    go_wp2
    go_returns
    exact ⟨rfl, hw⟩

def MkStrings (w : World) (v : Value) (N k : Nat) : Prop := (v = .slice none 0 0 ∧ N = 0) ∨ ∃ g cap, v = .slice (some ⟨g, 0, none⟩) N cap ∧ Mk w g 0 (N) (fun j => Value.string (markT (k + j)))
theorem MkStrings.below {w w' : World} {v : Value} {N k : Nat} (h : MkStrings w v N k) (hb : Below w.heap.size w w') : MkStrings w' v N k := by
  rcases h with h | ⟨g, cap, hv, hM⟩
  · exact .inl h
  · exact .inr ⟨g, cap, hv, hM.below hb⟩
theorem MkStrings.kept {S : Nat → Prop} {w w' : World} {v : Value} {N k : Nat} (h : MkStrings w v N k) (hk : Kept S w w') (hv : ∀ g, v.ownBlock = some g → ¬ S g) : MkStrings w' v N k := by
  rcases h with h | ⟨g, cap, rfl, hM⟩
  · exact .inl h
  · exact .inr ⟨g, cap, rfl, hM.kept hk (hv g rfl)⟩
theorem MkStrings.form {w : World} {v : Value} {N k : Nat} (h : MkStrings w v N k) : ∃ a c, v = .slice a N c := by
  rcases h with ⟨rfl, rfl⟩ | ⟨g, cap, rfl, hM⟩ <;> exact ⟨_, _, rfl⟩
theorem markStrings_c (v : Value) (N k lo : Nat) (z r : Int) (hz : z = k) (hr : r = z + (N : Int)) (hk : k + N ≤ 4611686018427387904) (xs : List Value) (w : World) (O : w.ownsRow lo 9 1 v N xs) (hlo : lo ≤ w.heap.size) :
    Calls Tryz.prog 11 #[v, .int .i64 z] w fun e w' => e = .returned (.int .i64 r) ∧ MkStrings w' v N k ∧ Below lo w w' ∧ Kept (fun q => v.ownBlock = some q) w w' := by
  subst hr
  subst hz
  have hb := own_base O
  rcases O.2 with ⟨rfl, h0⟩ | ⟨g, cap, cur, rfl, h1, h2, h3, h4, h5, h6⟩
  · have hN := O.1
    obtain rfl : N = 0 := by subst h0; simp at hN; omega
    exact (markStringS_nil k w).mono fun e w' ⟨he, hb⟩ => ⟨by rw [he]; simp, .inl ⟨rfl, rfl⟩, hb.mono hlo, Kept.below hb⟩
  · have hW : Wr w g 0 (N) := fun j hj => by
      have hjc : j < cur.size := by rw [h5]; exact Nat.lt_of_lt_of_le hj (by omega)
      refine ⟨cur[j], ?_, ?_⟩
      · rw [cell_of_row w g _ cur 9 (0, 0) h2, Nat.zero_add, Array.getElem?_eq_getElem hjc]
      · simp [World.frozen?, h2]
    refine (markStringS_c g 0 N cap k lo h1 hk w (hb g rfl).2 hW).mono fun e w' ⟨he, hM, hB, hK⟩ => ⟨by rw [he]; congr 2 <;> omega, .inr ⟨g, cap, rfl, hM⟩, hB, fun q h1 h2 => hK q h1 (fun e => h2 (by rw [e]; rfl))⟩
theorem heldStrings_c (v : Value) (N k : Nat) (z r : Int) (hz : z = k) (hr : r = z + (N : Int)) (hk : k + N ≤ 4611686018427387904) (w : World) (h : MkStrings w v N k) :
    Calls Tryz.prog 12 #[v, .int .i64 z] w fun e w' => e = .returned (.int .i64 r) ∧ Below w.heap.size w w' := by
  subst hr
  subst hz
  rcases h with ⟨rfl, rfl⟩ | ⟨g, cap, rfl, hM⟩
  · exact (heldStringS_nil k w).mono fun e w' ⟨he, hb⟩ => ⟨by rw [he]; simp, hb⟩
  · exact (heldStringS_c g 0 N cap k hk w hM).mono fun e w' ⟨he, hb⟩ => ⟨by rw [he]; congr 2 <;> omega, hb⟩

end Go.Proofs.YtaimekaagmcmnaaGreat
