/- Marks: markText. -/
import Derived.Test.YtajbgkpjmgmdhaaEq
import Derived.Test.YtajbgkpjmgmdhaaKept
import Derived.Laws.IdiomStrings
namespace Go.Proofs.Ytajbgkpjmgmdhaa
open Go.RowKit
set_option linter.unusedVariables false
set_option linter.unusedSimpArgs false
attribute [local go_sem] Ext.cell

theorem conv_digit (w : World) (k : Nat) : (convert 22 9 (Value.slice (some ⟨w.heap.size, 0, none⟩) 1 1)).run Try.prog (w.alloc (.cells #[.int .u8 (48 + (k : Int) % 10)] 5)) = .ok (.string ⟨#[dig k]⟩) (w.alloc (.cells #[.int .u8 (48 + (k : Int) % 10)] 5)) := by
  refine run_convert_bytes_back (P := Try.prog) _ 22 9 5 ⟨w.heap.size, 0, none⟩ 1 [dig k] Try.underlying22 Try.underlying5 Try.underlying9 (fun j hj => ?_)
  obtain rfl : j = 0 := by simp at hj; exact hj
  have h : (dig k).toNat = 48 + k % 10 := by unfold dig; rw [UInt8.toNat_ofNat']; exact Nat.mod_eq_of_lt (by omega)
  simp [go_sem, Addr.add, h]

set_option maxHeartbeats 1000000 in
theorem markText_c (k0 : Nat) (hk0 : k0 ≤ 4611686018427387904) (w : World) :
    Calls Try.prog 66 #[.int .i64 k0] w fun e w' => e = .returned (.string (markT k0)) ∧ Below w.heap.size w w' := by
  by_cases h0 : k0 = 0
  · subst h0
    go_enter Try.func66, Try.ntmps66
    go_wp2
    go_returns
    exact ⟨rfl, by go_grown⟩
  · have h1 : 0 < k0 := by omega
    have h2 : ¬ ((k0 : Int) ≤ 0) := by omega
    go_enter Try.func66, Try.ntmps66
    go_wp2_with fail
    go_loopw [0, 3] (fun m o wr => ∃ (k : Nat) (s : ByteArray), m = .int .i64 k ∧ o = .string s ∧ Hid (digs k s = digs k0 ⟨#[]⟩) ∧ s.size + k ≤ k0 ∧ Below w.heap.size w wr) (fun m _ _ => (intOf m).toNat)
    case atStart => exact ⟨k0, ⟨#[]⟩, rfl, rfl, rfl, by show 0 + k0 ≤ k0; omega, by go_grown⟩
    case round =>
      obtain ⟨k, s, rfl, rfl, hd, hs, hw⟩ := hrel
      have hz := hw.size
      by_cases hlt : k = 0
      · replace hd : s = digs k0 ⟨#[]⟩ := by rw [Hid, hlt, digs_zero] at hd; exact hd
        replace hd := Lib.hid hd
        have h5 : (k : Int) = 0 := by omega
        rw [h5]
        clear h5
        clear hlt
        generalize hj : digs k0 ⟨#[]⟩ = dk at *
        replace hj := Lib.hid hj
        have h4 : 1 + s.size ≤ 9223372036854775807 := by omega
        go_wp2_with fail
        go_returns
        exact ⟨by have a := hj.out; have b := hd.out; subst b; subst a; simp [markT, h0], hw⟩
      · have h3 : 0 < k := by omega
        have h4 : s.size + 1 ≤ 9223372036854775807 := by omega
        have hrun := conv_digit wr k
        set_option maxRecDepth 10000 in go_wp2_with fail
        go_roundw
        case rel => exact ⟨k / 10, _, by go_num, rfl, by rw [Hid, ← hd, digs_pos hlt], by rw [ByteArray.size_append]; show 1 + s.size + k / 10 ≤ k0; omega, by go_grown⟩
        case measure => simp [intOf]; omega

end Go.Proofs.Ytajbgkpjmgmdhaa
