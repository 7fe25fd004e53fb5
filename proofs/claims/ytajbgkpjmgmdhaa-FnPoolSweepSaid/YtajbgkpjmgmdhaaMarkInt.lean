/- Marks of []Int: printed by gen_marks.py. -/
import Derived.Test.YtajbgkpjmgmdhaaGrow
namespace Go.Proofs.Ytajbgkpjmgmdhaa
open Go.RowKit
set_option linter.unusedVariables false
set_option linter.unusedSimpArgs false
attribute [local go_sem] Ext.cell

def mkInt (k j : Nat) : Value := cmk [0] k j

set_option maxRecDepth 100000 in
set_option maxHeartbeats 4000000 in
theorem markIntS_c (b off n cap k lo : Nat) (hlo : lo ≤ b) (hkn : k + n ≤ 4611686018427387904) (w : World) (hb0 : b < w.heap.size) (hA : Wr w b off n) :
    Calls Try.prog 53 #[.slice (some ⟨b, off, none⟩) n cap, .int .i64 k] w fun e w' => e = .returned (.int .i64 (k + n : Nat)) ∧ Mk w' b off n (mkInt k) ∧ Below lo w w' ∧ Kept (· = b) w w' := by
  have hn : n ≤ 4611686018427387904 := by omega
  go_enter Try.func53, Try.ntmps53
  go_wp2_with fail
  go_loopw [1, 5] (fun kk i wr => ∃ m j : Nat, j ≤ n ∧ m = k + j ∧ kk = .int .i64 m ∧ i = .int .i64 j ∧ Wr wr b off n ∧ Mk wr b off j (mkInt k) ∧ Below lo w wr ∧ Kept (· = b) w wr) (fun _ i _ => n - (intOf i).toNat)
  case atStart => exact ⟨k, 0, by omega, by omega, rfl, rfl, hA, fun j hj => absurd hj (by omega), Below.refl _ _, Kept.refl _ _⟩
  case round =>
    obtain ⟨m, j, hj, hm, rfl, rfl, hA0, hM0, hw0, hK0⟩ := hrel
    have hz0 := hw0.size
    replace hm := Lib.hid hm
    clear hA
    by_cases hlt : j < n
    · have hm1 : m + 1 ≤ 4611686018427387904 := by have := hm.out; omega
      have hf0 : Value.int .i64 ((m : Int)) = mkInt k j := by rw [hm.out]; unfold mkInt cmk; simp [Nat.mod_one]
      replace hf0 := Lib.hid hf0
      obtain ⟨c0, e0, f0⟩ := hA0 j (by omega)
      go_wp2_with fail
      go_roundw
      case rel => exact ⟨m + 1, j + 1, by omega, by rw [hm.out]; omega, by go_num, by go_num, (hA0.set (off + j) _), (hM0.step hA0 (by omega) hf0.out), (hw0.setCell (p := ⟨b, off + j, none⟩) (by dsimp only; omega) _), (hK0.set (p := ⟨b, off + j, none⟩) rfl _)⟩
      case measure => simp [intOf]; omega
    · obtain rfl : j = n := by omega
      go_wp2
      go_returns
      exact ⟨by rw [hm.out]; rfl, hM0, hw0, hK0⟩

set_option maxRecDepth 100000 in
set_option maxHeartbeats 4000000 in
theorem heldIntS_c (b off n cap k : Nat) (hkn : k + n ≤ 4611686018427387904) (w : World) (hM : Mk w b off n (mkInt k)) :
    Calls Try.prog 54 #[.slice (some ⟨b, off, none⟩) n cap, .int .i64 k] w fun e w' => e = .returned (.int .i64 (k + n : Nat)) ∧ Below w.heap.size w w' := by
  have hn : n ≤ 4611686018427387904 := by omega
  go_enter Try.func54, Try.ntmps54
  go_wp2_with fail
  go_loopw [1, 5] (fun kk i wr => ∃ m j : Nat, j ≤ n ∧ m = k + j ∧ kk = .int .i64 m ∧ i = .int .i64 j ∧ Below w.heap.size w wr) (fun _ i _ => n - (intOf i).toNat)
  case atStart => exact ⟨k, 0, by omega, by omega, rfl, rfl, Below.refl _ _⟩
  case round =>
    obtain ⟨m, j, hj, hm, rfl, rfl, hw0⟩ := hrel
    replace hm := Lib.hid hm
    have hM0 := hM.below hw0
    by_cases hlt : j < n
    · have hm1 : m + 1 ≤ 4611686018427387904 := by have := hm.out; omega
      have hf0 : Value.int .i64 ((m : Int)) = mkInt k j := by rw [hm.out]; unfold mkInt cmk; simp [Nat.mod_one]
      replace hf0 := Lib.hid hf0
      have r0 : wr.cell? ⟨b, off + j, none⟩ = some (.int .i64 ((m : Int))) := (hM0 j (by omega)).trans (by rw [hf0.out])
      go_wp2
      go_roundw
      case rel => exact ⟨m + 1, j + 1, by omega, by rw [hm.out]; omega, by go_num, by go_num, hw0⟩
      case measure => simp [intOf]; omega
    · obtain rfl : j = n := by omega
      go_wp2
      go_returns
      exact ⟨by rw [hm.out]; rfl, hw0⟩

end Go.Proofs.Ytajbgkpjmgmdhaa
