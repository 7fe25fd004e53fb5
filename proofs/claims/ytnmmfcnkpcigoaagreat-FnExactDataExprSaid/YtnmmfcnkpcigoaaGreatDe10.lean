/- Parts of the proof, merged: To, FtInt, FtPNode, FtPat, FtIns. -/
import Derived.Test.YtnmmfcnkpcigoaaGreatRows
import Derived.OwnWalk
import Derived.Test.YtnmmfcnkpcigoaaGreatDe9
/- The walks of the to functions: a copy in memory of its own. Printed by gen_helpers.py. -/
namespace Go.Proofs.YtnmmfcnkpcigoaaGreat
open Go.RowKit
set_option linter.unusedVariables false
set_option linter.unusedSimpArgs false
attribute [local go_sem] Ext.cell


theorem info_IntS : (Tryz.prog.info? 3).map (fun i => (i.zero, i.size, i.bytes)) = some (some (.int .i64 0), 1, 8) := by kernel_rfl

set_option maxHeartbeats 1000000 in
theorem toIntS_c (x : List Int) (u : Value) (lo : Nat) (hlen : (x.length : Int) ≤ 1048576) (w : World) (hx : Sl IntR 1 lo w u x) :
    Calls Tryz.prog 74 #[u] w fun e w' => ∃ v, e = .returned v ∧ Sl IntR 1 w.heap.size w' v x ∧ Below w.heap.size w w' := by
  obtain ⟨a1, c1, rfl, l1, m1, hh⟩ := hx
  obtain ⟨n, hn⟩ : ∃ n, n = x.length := ⟨_, rfl⟩
  have hlen1 : x.length ≤ 1048576 := by omega
  clear hlen
  rw [← hn] at l1 hlen1 ⊢
  have X1 := Lib.hid hn
  clear hn
  obtain ⟨i0, hi, hi0, hi1, hi2⟩ := info_parts info_IntS
  have I := Lib.hid hi; have I0 := Lib.hid hi0; have I1 := Lib.hid hi1; have I2 := Lib.hid hi2
  clear hi hi0 hi1 hi2
  go_enter Tryz.func74, Tryz.ntmps74
  go_wp2_with (at_make; refine wpList_makeN rfl _ _ _ rfl 3 i0 _ 1 Tryz.underlying44 I.out I0.out I1.out rfl n rfl rfl (by rw [I2.out]; omega) (by omega) ?_; intro w1 hb1 hs1 hA1 _hr1)
  clear _hr1
  go_loopw [4] (fun i wr => ∃ k : Nat, k ≤ n ∧ i = .int .i64 k ∧ Below w.heap.size w wr ∧ w.heap.size + 1 ≤ wr.heap.size ∧ Arr wr w.heap.size (n * 1) ∧ Filled IntR 1 wr w.heap.size k x) (fun i _ => n - (intOf i).toNat)
  case atStart => exact ⟨0, by omega, rfl, hb1, by omega, hA1, Filled.zero⟩
  case round =>
    clear hs1 hb1 hA1
    obtain ⟨k, hk, rfl, hw, hz, hA, hF⟩ := hrel
    by_cases hlt : k < n
    · obtain ⟨b1, o1, p, s1, _, rfl, P1, q1, r1⟩ := (hh.below IntR.good hw).get X1 hlt
      ·
        have Q1 := q1
        obtain ⟨rfl, _⟩ := q1
        have R1 : wr.cell? ⟨b1, o1 + k, none⟩ = some (.int .i64 p) := (by simpa using r1 0 _ rfl)
        clear r1
        have hA2 := hA; have hF2 := hF; have hw2 := hw; have hz2 : wr.heap.size ≤ wr.heap.size := Nat.le_refl _
        obtain ⟨d0, e0, f0⟩ := hA2 (k) (by omega)
        have Q3 := IntR.good.mono Q1 (Nat.zero_le _) |> fun _ => (⟨rfl, Q1.2⟩ : IntR (w.heap.size + 1) wr [.int .i64 p] p)
        go_wp2
        have S := Filled.step IntR.good hF2 hA2 hlt (off := k) (by omega) P1.out Q3 rfl
        go_roundw
        case rel => exact ⟨k + 1, by omega, by go_num, hw2.trans (below_storeRow w.heap.size [.int .i64 p] wr (k)), Nat.le_trans hz (Nat.le_trans hz2 (Nat.le_of_eq (size_storeRow w.heap.size [.int .i64 p] wr (k)).symm)), S.2, S.1⟩
        case measure => simp [intOf]; omega
    · go_wp2
      go_returns
      obtain rfl : k = n := by omega
      obtain rfl := X1.out
      exact ⟨_, rfl, hF.sl IntR.good (Nat.le_refl _) (by omega), hw⟩


set_option maxHeartbeats 1000000 in
theorem toDNode_c (x : GDNode) (r : List Value) (lo : Nat) (hl : x.bulk ≤ 1048576) (w : World) (hx : GDNode.R lo w r x) :
    Calls Tryz.prog 41 #[.agg r.toArray] w fun e w' => ∃ r', e = .returned (.agg r'.toArray) ∧ GDNode.R w.heap.size w' r' x ∧ Below w.heap.size w w' := by
  obtain ⟨x0, x1, x2, x3⟩ := x
  obtain ⟨u0, rfl, ⟨wx0, wx1, wx2⟩, a0⟩ := hx
  dsimp only at *
  have z2 := size_nonneg x2
  have z3 := length_nonneg x3
  simp only [GDNode.bulk] at hl
  go_enter Tryz.func41, Tryz.ntmps41
  go_wp2_with (first | (go_at_call 74; ((with_reducible refine (toIntS_c x3 u0 lo ?_ _ ?_).mono ?_); omega; exact a0.below IntR.good (by go_grown); rintro e w1 ⟨v0, rfl, c0, hb⟩; have c0 := c0.mono IntR.good (show w.heap.size + 3 ≤ _ by (try simp only [World.size_alloc, World.size_setCell, World.size_drew]); omega); obtain ⟨av0, cv0, rfl⟩ := c0.form; have hw : Below w.heap.size w w1 := Below.trans (by go_grown) (hb.mono (by go_grown)); obtain ⟨hc, hf⟩ := bcell hb; have hz := hw.size; have hz1 := hb.size; have hs0 : w.heap.size < w1.heap.size := (by have h := hz1; (try simp only [World.size_alloc, World.size_setCell, World.size_drew] at h); omega); have hs1 : w.heap.size + 1 < w1.heap.size := (by have h := hz1; (try simp only [World.size_alloc, World.size_setCell, World.size_drew] at h); omega); have hs2 : w.heap.size + 1 + 1 < w1.heap.size := (by have h := hz1; (try simp only [World.size_alloc, World.size_setCell, World.size_drew] at h); omega); clear hb)))
  refine bodyPost_ret (v := .agg #[.int .i64 x0, .int .i64 x1, .string x2, .slice av0 x3.length cv0]) (by simp [results, Tryz.results41, go_sem, *]) rfl ?_
  refine ⟨[.int .i64 x0, .int .i64 x1, .string x2, .slice av0 x3.length cv0], rfl, ⟨_, rfl, ⟨wx0, wx1, wx2⟩, (c0.agree IntR.good (by repeat' (first | with_reducible exact Agree.refl _ _ | with_reducible refine Agree.setCell ?_ ?_ _ | (dsimp only; omega)))).mono IntR.good (by omega)⟩, by go_grown⟩


theorem info_DNodeS : (Tryz.prog.info? 69).map (fun i => (i.zero, i.size, i.bytes)) = some (some (.agg #[.int .i64 0, .int .i64 0, .string ⟨#[]⟩, .slice none 0 0]), 4, 56) := by kernel_rfl

set_option maxHeartbeats 1000000 in
theorem toDNodeS_c (x : List GDNode) (u : Value) (lo : Nat) (hlen : bulkS GDNode.bulk x ≤ 1048576) (w : World) (hx : Sl GDNode.R 4 lo w u x) :
    Calls Tryz.prog 18 #[u] w fun e w' => ∃ v, e = .returned v ∧ Sl GDNode.R 4 w.heap.size w' v x ∧ Below w.heap.size w w' := by
  obtain ⟨a1, c1, rfl, l1, m1, hh⟩ := hx
  obtain ⟨n, hn⟩ : ∃ n, n = x.length := ⟨_, rfl⟩
  have hlen1 : x.length ≤ 1048576 := by have := length_le_bulkS (f := GDNode.bulk) GDNode.bulk_nonneg x; omega
  have hle : ∀ {k : Nat} {p : GDNode}, x[k]? = some p → GDNode.bulk p ≤ 1048576 := fun hp => by have := le_bulkS (f := GDNode.bulk) GDNode.bulk_nonneg hp; omega
  clear hlen
  rw [← hn] at l1 hlen1 ⊢
  have X1 := Lib.hid hn
  clear hn
  obtain ⟨i0, hi, hi0, hi1, hi2⟩ := info_parts info_DNodeS
  have I := Lib.hid hi; have I0 := Lib.hid hi0; have I1 := Lib.hid hi1; have I2 := Lib.hid hi2
  clear hi hi0 hi1 hi2
  go_enter Tryz.func18, Tryz.ntmps18
  go_wp2_with (at_make; refine wpList_makeN rfl _ _ _ rfl 69 i0 _ 4 Tryz.underlying32 I.out I0.out I1.out rfl n rfl rfl (by rw [I2.out]; omega) (by omega) ?_; intro w1 hb1 hs1 hA1 _hr1)
  clear _hr1
  go_loopw [4] (fun i wr => ∃ k : Nat, k ≤ n ∧ i = .int .i64 k ∧ Below w.heap.size w wr ∧ w.heap.size + 1 ≤ wr.heap.size ∧ Arr wr w.heap.size (n * 4) ∧ Filled GDNode.R 4 wr w.heap.size k x) (fun i _ => n - (intOf i).toNat)
  case atStart => exact ⟨0, by omega, rfl, hb1, by omega, hA1, Filled.zero⟩
  case round =>
    clear hs1 hb1 hA1
    obtain ⟨k, hk, rfl, hw, hz, hA, hF⟩ := hrel
    by_cases hlt : k < n
    · obtain ⟨b1, o1, p, s1, _, rfl, P1, q1, r1⟩ := (hh.below GDNode.good hw).get X1 hlt
      ·
        have Q1 := q1
        obtain ⟨s0, rfl, _, _⟩ := q1
        have R1 : wr.cell? ⟨b1, o1 + k * 4, none⟩ = some (.int .i64 p.kind) ∧ wr.cell? ⟨b1, o1 + k * 4 + 1, none⟩ = some (.int .i64 p.n) ∧ wr.cell? ⟨b1, o1 + k * 4 + 2, none⟩ = some (.string p.s) ∧ wr.cell? ⟨b1, o1 + k * 4 + 3, none⟩ = some (s0) := ⟨by simpa using r1 0 _ rfl, by simpa using r1 1 _ rfl, by simpa using r1 2 _ rfl, by simpa using r1 3 _ rfl⟩
        clear r1
        go_wp2_with (go_at_call 41; refine (toDNode_c p _ _ (hle P1.out) _ Q1).mono ?_; rintro e w2 ⟨r2, rfl, q3, hb2⟩; have Q3 := GDNode.good.mono q3 hz; obtain ⟨t0, rfl, -, g0⟩ := q3; obtain ⟨at0, ct0, rfl⟩ := g0.form; clear g0; have hA2 := hA.below hb2; have hF2 := hF.below GDNode.good hb2; have hw2 := hw.trans (hb2.mono hw.size); have hz2 := hb2.size; clear hb2 hw hA hF R1; obtain ⟨d0, e0, f0⟩ := hA2 (k * 4) (by omega); obtain ⟨d1, e1, f1⟩ := hA2 (k * 4 + 1) (by omega); obtain ⟨d2, e2, f2⟩ := hA2 (k * 4 + 2) (by omega); obtain ⟨d3, e3, f3⟩ := hA2 (k * 4 + 3) (by omega))
        have S := Filled.step GDNode.good hF2 hA2 hlt (off := k * 4) (by omega) P1.out Q3 rfl
        go_roundw
        case rel => exact ⟨k + 1, by omega, by go_num, hw2.trans (below_storeRow w.heap.size [.int .i64 p.kind, .int .i64 p.n, .string p.s, .slice at0 p.kids.length ct0] w2 (k * 4)), Nat.le_trans hz (Nat.le_trans hz2 (Nat.le_of_eq (size_storeRow w.heap.size [.int .i64 p.kind, .int .i64 p.n, .string p.s, .slice at0 p.kids.length ct0] w2 (k * 4)).symm)), S.2, S.1⟩
        case measure => simp [intOf]; omega
    · go_wp2
      go_returns
      obtain rfl : k = n := by omega
      obtain rfl := X1.out
      exact ⟨_, rfl, hF.sl GDNode.good (Nat.le_refl _) (by omega), hw⟩


set_option maxHeartbeats 1000000 in
theorem toData_c (x : GData) (r : List Value) (lo : Nat) (hl : x.bulk ≤ 1048576) (w : World) (hx : GData.R lo w r x) :
    Calls Tryz.prog 6 #[.agg r.toArray] w fun e w' => ∃ r', e = .returned (.agg r'.toArray) ∧ GData.R w.heap.size w' r' x ∧ Below w.heap.size w w' := by
  obtain ⟨x0⟩ := x
  obtain ⟨u0, rfl, _, a0⟩ := hx
  dsimp only at *
  have z0 := bulkS_nonneg GDNode.bulk_nonneg x0
  simp only [GData.bulk] at hl
  go_enter Tryz.func6, Tryz.ntmps6
  go_wp2_with (first | (go_at_call 18; ((with_reducible refine (toDNodeS_c x0 u0 lo ?_ _ ?_).mono ?_); omega; exact a0.below GDNode.good (by go_grown); rintro e w1 ⟨v0, rfl, c0, hb⟩; have c0 := c0.mono GDNode.good (show w.heap.size + 3 ≤ _ by (try simp only [World.size_alloc, World.size_setCell, World.size_drew]); omega); obtain ⟨av0, cv0, rfl⟩ := c0.form; have hw : Below w.heap.size w w1 := Below.trans (by go_grown) (hb.mono (by go_grown)); obtain ⟨hc, hf⟩ := bcell hb; have hz := hw.size; have hz1 := hb.size; have hs0 : w.heap.size < w1.heap.size := (by have h := hz1; (try simp only [World.size_alloc, World.size_setCell, World.size_drew] at h); omega); have hs1 : w.heap.size + 1 < w1.heap.size := (by have h := hz1; (try simp only [World.size_alloc, World.size_setCell, World.size_drew] at h); omega); have hs2 : w.heap.size + 1 + 1 < w1.heap.size := (by have h := hz1; (try simp only [World.size_alloc, World.size_setCell, World.size_drew] at h); omega); clear hb)))
  refine bodyPost_ret (v := .agg #[.slice av0 x0.length cv0]) (by simp [results, Tryz.results6, go_sem, *]) rfl ?_
  refine ⟨[.slice av0 x0.length cv0], rfl, ⟨_, rfl, trivial, (c0.agree GDNode.good (by repeat' (first | with_reducible exact Agree.refl _ _ | with_reducible refine Agree.setCell ?_ ?_ _ | (dsimp only; omega)))).mono GDNode.good (by omega)⟩, by go_grown⟩


end Go.Proofs.YtnmmfcnkpcigoaaGreat

/- What the laws' to functions make of Int is the call's own: printed by gen_footto.py. -/
namespace Go.Proofs.YtnmmfcnkpcigoaaGreat
open Go.RowKit
set_option linter.unusedVariables false
set_option linter.unusedSimpArgs false
attribute [local go_sem] Ext.cell

set_option maxRecDepth 100000 in
set_option maxHeartbeats 2000000 in
theorem toIntS_o (x : List Int) (u : Value) (lo : Nat) (hlen : (x.length : Int) ≤ 1048576) (w : World) (hx : Sl IntR 1 lo w u x) :
    Calls Tryz.prog 74 #[u] w fun e w' => ∃ v bs, e = .returned v ∧ SlO 3 1 (FlatO intRow I64) bs w' v x ∧ bs.Nodup ∧ (∀ b ∈ bs, w.heap.size ≤ b) ∧ Below w.heap.size w w' := by
  obtain ⟨a1, c1, rfl, l1, m1, hh⟩ := hx
  obtain ⟨n, hn⟩ : ∃ n, n = x.length := ⟨_, rfl⟩
  have hlen1 : x.length ≤ 1048576 := by omega
  clear hlen
  rw [← hn] at l1 hlen1 ⊢
  have X1 := Lib.hid hn
  clear hn
  obtain ⟨i0, hi, hi0, hi1, hi2⟩ := info_parts info_IntS
  have I := Lib.hid hi; have I0 := Lib.hid hi0; have I1 := Lib.hid hi1; have I2 := Lib.hid hi2
  clear hi hi0 hi1 hi2
  go_enter Tryz.func74, Tryz.ntmps74
  go_wp2_with (at_make; refine wpList_make_full _ rfl _ _ _ rfl w.heap.size 3 i0 _ 1 Tryz.underlying44 I.out I0.out I1.out _ _ _ _ n rfl rfl rfl rfl (by rw [I2.out]; omega) (by unfold maxLen; omega) (Nat.le_refl _) ?_; intro w1 hO hgw)
  have hb1 : Below w.heap.size w w1 := (Below.refl w.heap.size w).grown (row := none) hgw (Nat.le_refl _) (by simp)
  have hs1 : w.heap.size < w1.heap.size := (own_base hO _ rfl).2
  have O1 : FillO 3 1 (FlatO intRow I64) w.heap.size w1 w.heap.size n 0 [] x := FillO.made hO x
  replace O1 := Lib.hid O1
  clear hO hgw
  go_loopw [4] (fun i wr => ∃ (k : Nat) (ps : List (List Nat)), k ≤ n ∧ i = .int .i64 k ∧ Below w.heap.size w wr ∧ w.heap.size + 1 ≤ wr.heap.size ∧ Hid (FillO 3 1 (FlatO intRow I64) w.heap.size wr w.heap.size n k ps x) ∧ Hid (ps.flatten.Nodup) ∧ Hid (∀ b ∈ ps.flatten, w.heap.size + 1 ≤ b ∧ b < wr.heap.size)) (fun i _ => n - (intOf i).toNat)
  case atStart => exact ⟨0, [], by omega, rfl, hb1, by omega, O1, List.nodup_nil, fun b h => by cases h⟩
  case round =>
    clear hs1 hb1 O1
    obtain ⟨k, ps, hk, rfl, hw, hz, hO, hN, hL⟩ := hrel
    by_cases hlt : k < n
    · obtain ⟨b1, o1, p, s1, _, rfl, P1, q1, r1⟩ := (hh.below IntR.good hw).get X1 hlt
      have Q1 := q1
      obtain ⟨rfl, hwf0⟩ := q1
      have R1 : wr.cell? ⟨b1, o1 + k, none⟩ = some (.int .i64 p) := (by simpa using r1 0 _ rfl)
      clear r1
      have hA2 := (hO.out.arr (by omega)).2.2; have hO2 := hO; have hw2 := hw; have hz2 : wr.heap.size ≤ wr.heap.size := Nat.le_refl _
      obtain ⟨d0, e0, f0⟩ := hA2 (k) (by omega)
      go_wp2
      have hl2' : ∀ b ∈ ([] : List Nat), b < wr.heap.size := (fun b h => by cases h)
      have hf2' : ∀ b ∈ ([] : List Nat), wr.heap.size ≤ b := (fun b h => by cases h)
      go_roundw
      case rel => exact ⟨k + 1, ps ++ [[]], by omega, by go_num, hw2.trans (below_storeRow w.heap.size [.int .i64 p] wr (k)), Nat.le_trans hz (Nat.le_trans hz2 (Nat.le_of_eq (size_storeRow w.heap.size [.int .i64 p] wr (k)).symm)),
        (hO2.out.step (flatO_ok flatInt) hlt (off := k) (r := [.int .i64 p]) (by omega) P1.out rfl ⟨rfl, rfl, hwf0⟩ (fun h => by have := hL.out _ h; omega) (fun h => by have := hf2' _ h; omega)),
        by show (ps ++ [[]]).flatten.Nodup; rw [List.flatten_append, List.flatten_singleton]; exact List.nodup_append.2 ⟨hN.out, List.nodup_nil, fun b h b2 h2 e => by subst e; have := hL.out _ h; have := hf2' _ h2; omega⟩,
        fun b h => by
          rw [List.flatten_append, List.flatten_singleton] at h
          rcases List.mem_append.1 h with h | h
          · have := hL.out _ h; exact ⟨this.1, Nat.lt_of_lt_of_le this.2 (Nat.le_trans hz2 (Nat.le_of_eq (size_storeRow w.heap.size [.int .i64 p] wr (k)).symm))⟩
          · have h1 := hf2' _ h; have h2 := hl2' _ h; exact ⟨by omega, Nat.lt_of_lt_of_le h2 (Nat.le_of_eq (size_storeRow w.heap.size [.int .i64 p] wr (k)).symm)⟩⟩
      case measure => simp [intOf]; omega
    · go_wp2
      go_returns
      obtain rfl : k = n := by omega
      exact ⟨_, _, rfl, (hO.out.full X1.out).slO, List.nodup_cons.2 ⟨fun h => by have := (hL.out _ h).1; dsimp only at this; omega, hN.out⟩, fun b h => by
        rcases List.mem_cons.1 h with h | h
        · dsimp only at h; omega
        · have := (hL.out _ h).1; omega, hw⟩

end Go.Proofs.YtnmmfcnkpcigoaaGreat

/- What the laws' to functions make of PNode is the call's own: printed by gen_footto.py. -/
namespace Go.Proofs.YtnmmfcnkpcigoaaGreat
open Go.RowKit
set_option linter.unusedVariables false
set_option linter.unusedSimpArgs false
attribute [local go_sem] Ext.cell

end Go.Proofs.YtnmmfcnkpcigoaaGreat

/- What the laws' to functions make of Pat is the call's own: printed by gen_footto.py. -/
namespace Go.Proofs.YtnmmfcnkpcigoaaGreat
open Go.RowKit
set_option linter.unusedVariables false
set_option linter.unusedSimpArgs false
attribute [local go_sem] Ext.cell

end Go.Proofs.YtnmmfcnkpcigoaaGreat

/- What the laws' to functions make of Ins is the call's own: printed by gen_footto.py. -/
namespace Go.Proofs.YtnmmfcnkpcigoaaGreat
open Go.RowKit
set_option linter.unusedVariables false
set_option linter.unusedSimpArgs false
attribute [local go_sem] Ext.cell

end Go.Proofs.YtnmmfcnkpcigoaaGreat
