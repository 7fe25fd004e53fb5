/- What laws.toCellS makes is the call's own: printed by gen_toown.py. -/
import Derived.Test.YtajbgkpjmgmdhaaFill
import Derived.Test.YtajbgkpjmgmdhaaTo
import Derived.OwnWalk
namespace Go.Proofs.Ytajbgkpjmgmdhaa
open Go.RowKit
set_option linter.unusedVariables false
set_option linter.unusedSimpArgs false
attribute [local go_sem] Ext.cell

set_option maxHeartbeats 1000000 in
theorem toCellS_o (x : List GCell) (u : Value) (lo : Nat) (hlen : bulkS GCell.bulk x ≤ 1048576) (w : World) (hx : Sl GCell.R 9 lo w u x) :
    Calls Try.prog 49 #[u] w fun e w' => ∃ v, e = .returned v ∧ OwnF 30 9 cellRow GCell.wf w.heap.size w' v x ∧ Below w.heap.size w w' := by
  have hwf := Lib.hid (flatCell.wfs hx)
  obtain ⟨a1, c1, rfl, l1, m1, hh⟩ := hx
  obtain ⟨n, hn⟩ : ∃ n, n = x.length := ⟨_, rfl⟩
  have hlen1 : x.length ≤ 1048576 := by have := length_le_bulkS (f := GCell.bulk) GCell.bulk_nonneg x; omega
  have hle : ∀ {k : Nat} {p : GCell}, x[k]? = some p → GCell.bulk p ≤ 1048576 := fun hp => by have := le_bulkS (f := GCell.bulk) GCell.bulk_nonneg hp; omega
  clear hlen
  rw [← hn] at l1 hlen1 ⊢
  have X1 := Lib.hid hn
  clear hn
  obtain ⟨i0, hi, hi0, hi1, hi2⟩ := info_parts info_CellS
  have I := Lib.hid hi; have I0 := Lib.hid hi0; have I1 := Lib.hid hi1; have I2 := Lib.hid hi2
  clear hi hi0 hi1 hi2
  go_enter Try.func49, Try.ntmps49
  go_wp2_with (at_make; refine wpList_make_full _ rfl _ _ _ rfl w.heap.size 30 i0 _ 9 Try.underlying23 I.out I0.out I1.out _ _ _ _ n rfl rfl rfl rfl (by rw [I2.out]; omega) (by unfold maxLen; omega) (Nat.le_refl _) ?_; intro w1 hO hgw)
  have hb1 : Below w.heap.size w w1 := (Below.refl w.heap.size w).grown (row := none) hgw (Nat.le_refl _) (by simp)
  have hs1 : w.heap.size < w1.heap.size := (own_base hO _ rfl).2
  have O1 : OwnFill 30 9 cellRow w.heap.size w1 w.heap.size n 0 x := OwnFill.made hO x
  clear hO hgw
  go_loopw [4] (fun i wr => ∃ k : Nat, k ≤ n ∧ i = .int .i64 k ∧ Below w.heap.size w wr ∧ w.heap.size + 1 ≤ wr.heap.size ∧ OwnFill 30 9 cellRow w.heap.size wr w.heap.size n k x) (fun i _ => n - (intOf i).toNat)
  case atStart => exact ⟨0, by omega, rfl, hb1, by omega, O1⟩
  case round =>
    clear hs1 hb1 O1
    obtain ⟨k, hk, rfl, hw, hz, hO⟩ := hrel
    by_cases hlt : k < n
    · obtain ⟨b1, o1, p, s1, _, rfl, P1, q1, r1⟩ := (hh.below GCell.good hw).get X1 hlt
      have Q1 := q1
      obtain ⟨rfl, _⟩ := q1
      have R1 : wr.cell? ⟨b1, o1 + k * 9, none⟩ = some (.int .i64 p.kind) ∧ wr.cell? ⟨b1, o1 + k * 9 + 1, none⟩ = some (.int .i64 p.n) ∧ wr.cell? ⟨b1, o1 + k * 9 + 2, none⟩ = some (.string p.s) ∧ wr.cell? ⟨b1, o1 + k * 9 + 3, none⟩ = some (.int .i64 p.a.kind) ∧ wr.cell? ⟨b1, o1 + k * 9 + 4, none⟩ = some (.int .i64 p.a.n) ∧ wr.cell? ⟨b1, o1 + k * 9 + 5, none⟩ = some (.string p.a.s) ∧ wr.cell? ⟨b1, o1 + k * 9 + 6, none⟩ = some (.int .i64 p.b.kind) ∧ wr.cell? ⟨b1, o1 + k * 9 + 7, none⟩ = some (.int .i64 p.b.n) ∧ wr.cell? ⟨b1, o1 + k * 9 + 8, none⟩ = some (.string p.b.s) := ⟨by simpa using r1 0 _ rfl, by simpa using r1 1 _ rfl, by simpa using r1 2 _ rfl, by simpa using r1 3 _ rfl, by simpa using r1 4 _ rfl, by simpa using r1 5 _ rfl, by simpa using r1 6 _ rfl, by simpa using r1 7 _ rfl, by simpa using r1 8 _ rfl⟩
      clear r1
      go_wp2_with (go_at_call 17; refine (toCell_c p _ _ (hle P1.out) _ Q1).mono ?_; rintro e w2 ⟨r2, rfl, q3, hb2⟩; obtain ⟨rfl, -⟩ := q3; have hA2 := ((hO.below hb2).arr (by omega)).2.2; have hO2 := Lib.hid (hO.below hb2); have hw2 := hw.trans (hb2.mono hw.size); have hz2 := hb2.size; clear hb2 hw hO R1; obtain ⟨d0, e0, f0⟩ := hA2 (k * 9) (by omega); obtain ⟨d1, e1, f1⟩ := hA2 (k * 9 + 1) (by omega); obtain ⟨d2, e2, f2⟩ := hA2 (k * 9 + 2) (by omega); obtain ⟨d3, e3, f3⟩ := hA2 (k * 9 + 3) (by omega); obtain ⟨d4, e4, f4⟩ := hA2 (k * 9 + 4) (by omega); obtain ⟨d5, e5, f5⟩ := hA2 (k * 9 + 5) (by omega); obtain ⟨d6, e6, f6⟩ := hA2 (k * 9 + 6) (by omega); obtain ⟨d7, e7, f7⟩ := hA2 (k * 9 + 7) (by omega); obtain ⟨d8, e8, f8⟩ := hA2 (k * 9 + 8) (by omega))
      go_roundw
      case rel => exact ⟨k + 1, by omega, by go_num, hw2.trans (below_storeRow w.heap.size [.int .i64 p.kind, .int .i64 p.n, .string p.s, .int .i64 p.a.kind, .int .i64 p.a.n, .string p.a.s, .int .i64 p.b.kind, .int .i64 p.b.n, .string p.b.s] w2 (k * 9)), Nat.le_trans hz (Nat.le_trans hz2 (Nat.le_of_eq (size_storeRow w.heap.size [.int .i64 p.kind, .int .i64 p.n, .string p.s, .int .i64 p.a.kind, .int .i64 p.a.n, .string p.a.s, .int .i64 p.b.kind, .int .i64 p.b.n, .string p.b.s] w2 (k * 9)).symm)), hO2.out.step flatCell hlt (off := k * 9) (by omega) P1.out⟩
      case measure => simp [intOf]; omega
    · replace hO := Lib.hid hO
      go_wp2
      go_returns
      obtain rfl : k = n := by omega
      exact ⟨_, rfl, hO.out.full flatCell X1.out hwf.out, hw⟩


end Go.Proofs.Ytajbgkpjmgmdhaa
