/- What laws.toIntS makes is the call's own: printed by gen_toown.py. -/
import Derived.Test.YtajbgkpjmgmdhaaFill
import Derived.Test.YtajbgkpjmgmdhaaTo
import Derived.OwnWalk
namespace Go.Proofs.Ytajbgkpjmgmdhaa
open Go.RowKit
set_option linter.unusedVariables false
set_option linter.unusedSimpArgs false
attribute [local go_sem] Ext.cell

set_option maxHeartbeats 1000000 in
theorem toIntS_o (x : List Int) (u : Value) (lo : Nat) (hlen : (x.length : Int) ≤ 1048576) (w : World) (hx : Sl IntR 1 lo w u x) :
    Calls Try.prog 50 #[u] w fun e w' => ∃ v, e = .returned v ∧ OwnF 3 1 intRow I64 w.heap.size w' v x ∧ Below w.heap.size w w' := by
  have hwf := Lib.hid (flatInt.wfs hx)
  obtain ⟨a1, c1, rfl, l1, m1, hh⟩ := hx
  obtain ⟨n, hn⟩ : ∃ n, n = x.length := ⟨_, rfl⟩
  have hlen1 : x.length ≤ 1048576 := by omega
  clear hlen
  rw [← hn] at l1 hlen1 ⊢
  have X1 := Lib.hid hn
  clear hn
  obtain ⟨i0, hi, hi0, hi1, hi2⟩ := info_parts info_IntS
  have I := Lib.hid hi; have I0 := Lib.hid hi0; have I1 := Lib.hid hi1; have I2 := Lib.hid hi2
  clear hi hi0 hi1 hi2
  go_enter Try.func50, Try.ntmps50
  go_wp2_with (at_make; refine wpList_make_full _ rfl _ _ _ rfl w.heap.size 3 i0 _ 1 Try.underlying24 I.out I0.out I1.out _ _ _ _ n rfl rfl rfl rfl (by rw [I2.out]; omega) (by unfold maxLen; omega) (Nat.le_refl _) ?_; intro w1 hO hgw)
  have hb1 : Below w.heap.size w w1 := (Below.refl w.heap.size w).grown (row := none) hgw (Nat.le_refl _) (by simp)
  have hs1 : w.heap.size < w1.heap.size := (own_base hO _ rfl).2
  have O1 : OwnFill 3 1 intRow w.heap.size w1 w.heap.size n 0 x := OwnFill.made hO x
  clear hO hgw
  go_loopw [4] (fun i wr => ∃ k : Nat, k ≤ n ∧ i = .int .i64 k ∧ Below w.heap.size w wr ∧ w.heap.size + 1 ≤ wr.heap.size ∧ OwnFill 3 1 intRow w.heap.size wr w.heap.size n k x) (fun i _ => n - (intOf i).toNat)
  case atStart => exact ⟨0, by omega, rfl, hb1, by omega, O1⟩
  case round =>
    clear hs1 hb1 O1
    obtain ⟨k, hk, rfl, hw, hz, hO⟩ := hrel
    by_cases hlt : k < n
    · obtain ⟨b1, o1, p, s1, _, rfl, P1, q1, r1⟩ := (hh.below IntR.good hw).get X1 hlt
      have Q1 := q1
      obtain ⟨rfl, _⟩ := q1
      have R1 : wr.cell? ⟨b1, o1 + k, none⟩ = some (.int .i64 p) := (by simpa using r1 0 _ rfl)
      clear r1
      obtain ⟨d0, e0, f0⟩ := (hO.arr (by omega)).2.2 k (by omega)
      have hO2 := Lib.hid hO; have hw2 := hw; have hz2 : wr.heap.size ≤ wr.heap.size := Nat.le_refl _
      clear hO
      go_wp2
      go_roundw
      case rel => exact ⟨k + 1, by omega, by go_num, hw2.trans (below_storeRow w.heap.size [.int .i64 p] wr (k)), Nat.le_trans hz (Nat.le_trans hz2 (Nat.le_of_eq (size_storeRow w.heap.size [.int .i64 p] wr (k)).symm)), hO2.out.step flatInt hlt (off := k) (by omega) P1.out⟩
      case measure => simp [intOf]; omega
    · replace hO := Lib.hid hO
      go_wp2
      go_returns
      obtain rfl : k = n := by omega
      exact ⟨_, rfl, hO.out.full flatInt X1.out hwf.out, hw⟩


end Go.Proofs.Ytajbgkpjmgmdhaa
