/- Marks of []Val: printed by gen_marks.py. -/
import Derived.Test.YtajbgkpjmgmdhaaGrow
namespace Go.Proofs.Ytajbgkpjmgmdhaa
open Go.RowKit
set_option linter.unusedVariables false
set_option linter.unusedSimpArgs false
attribute [local go_sem] Ext.cell

def mkVal (k j : Nat) : Value := cmk [0, 0, 1] k j

set_option maxRecDepth 100000 in
set_option maxHeartbeats 4000000 in
theorem markValS_c (b off n cap k lo : Nat) (hlo : lo ≤ b) (hkn : k + n * 3 ≤ 4611686018427387904) (w : World) (hb0 : b < w.heap.size) (hA : Wr w b off (n * 3)) :
    Calls Try.prog 29 #[.slice (some ⟨b, off, none⟩) n cap, .int .i64 k] w fun e w' => e = .returned (.int .i64 (k + n * 3 : Nat)) ∧ Mk w' b off (n * 3) (mkVal k) ∧ Below lo w w' ∧ Kept (· = b) w w' := by
  have hn : n ≤ 4611686018427387904 := by omega
  go_enter Try.func29, Try.ntmps29
  go_wp2_with fail
  go_loopw [1, 5] (fun kk i wr => ∃ m j : Nat, j ≤ n ∧ m = k + j * 3 ∧ kk = .int .i64 m ∧ i = .int .i64 j ∧ Wr wr b off (n * 3) ∧ Mk wr b off (j * 3) (mkVal k) ∧ Below lo w wr ∧ Kept (· = b) w wr) (fun _ i _ => n - (intOf i).toNat)
  case atStart => exact ⟨k, 0, by omega, by omega, rfl, rfl, hA, fun j hj => absurd hj (by omega), Below.refl _ _, Kept.refl _ _⟩
  case round =>
    obtain ⟨m, j, hj, hm, rfl, rfl, hA0, hM0, hw0, hK0⟩ := hrel
    have hz0 := hw0.size
    replace hm := Lib.hid hm
    clear hA
    by_cases hlt : j < n
    · have hm1 : m + 3 ≤ 4611686018427387904 := by have := hm.out; omega
      have hf0 : Value.int .i64 ((m : Int)) = mkVal k (j * 3 + 0) := (by show Value.int .i64 _ = Value.int .i64 ((m + 0 : Nat) : Int); congr 1 <;> omega : Value.int .i64 ((m : Int)) = Value.int .i64 ((m + 0 : Nat) : Int)).trans (cmk_at [0, 0, 1] k j 0 m (by decide) hm.out).symm
      have hf1 : Value.int .i64 ((m : Int) + 1) = mkVal k (j * 3 + 1) := (by show Value.int .i64 _ = Value.int .i64 ((m + 1 : Nat) : Int); congr 1 <;> omega : Value.int .i64 ((m : Int) + 1) = Value.int .i64 ((m + 1 : Nat) : Int)).trans (cmk_at [0, 0, 1] k j 1 m (by decide) hm.out).symm
      have hf2 : Value.string (markT (m + 2)) = mkVal k (j * 3 + 2) := (cmk_at [0, 0, 1] k j 2 m (by decide) hm.out).symm
      replace hf0 := Lib.hid hf0; replace hf1 := Lib.hid hf1; replace hf2 := Lib.hid hf2
      obtain ⟨⟨c0, e0, f0⟩, ⟨c1, e1, f1⟩, ⟨c2, e2, f2⟩⟩ : (∃ c, wr.cell? ⟨b, off + j * 3, none⟩ = some c ∧ wr.frozen? ⟨b, off + j * 3, none⟩ = false) ∧ (∃ c, wr.cell? ⟨b, off + j * 3 + 1, none⟩ = some c ∧ wr.frozen? ⟨b, off + j * 3 + 1, none⟩ = false) ∧ (∃ c, wr.cell? ⟨b, off + j * 3 + 2, none⟩ = some c ∧ wr.frozen? ⟨b, off + j * 3 + 2, none⟩ = false) := ⟨hA0 (j * 3 + 0) (by omega), hA0 (j * 3 + 1) (by omega), hA0 (j * 3 + 2) (by omega)⟩
      go_wp2_with fail
      refine (markText_z (m + 2) ((m : Int) + 1 + 1) (by omega) (by omega) _).mono ?_
      rintro e w1 ⟨rfl, hb⟩
      have hA1 : Wr w1 b off (n * 3) := ((hA0.set (off + (j * 3 + 0)) _).set (off + (j * 3 + 1)) _).below hb
      have hM1 : Mk w1 b off (j * 3 + 2) (mkVal k) := ((hM0.step hA0 (by omega) hf0.out).step (hA0.set (off + (j * 3 + 0)) _) (by omega) hf1.out).below hb
      have hz1 : w.heap.size ≤ w1.heap.size := Nat.le_trans (by simpa [World.setCell] using hz0) hb.size
      have hw1 : Below lo w w1 := ((hw0.setCell (p := ⟨b, off + (j * 3 + 0), none⟩) (by dsimp only; omega) _).setCell (p := ⟨b, off + (j * 3 + 1), none⟩) (by dsimp only; omega) _).trans (hb.mono (by have := hz0; simp [World.setCell]; omega))
      have hK1 : Kept (· = b) w w1 := ((hK0.set (p := ⟨b, off + (j * 3 + 0), none⟩) rfl _).set (p := ⟨b, off + (j * 3 + 1), none⟩) rfl _).trans (by simpa [World.setCell] using hz0) (Kept.below hb)
      clear hA0 hM0 hz0 hw0 hK0 hb
      clear e0 f0 e1 f1 e2 f2
      obtain ⟨⟨c0, e0, f0⟩, ⟨c1, e1, f1⟩, ⟨c2, e2, f2⟩⟩ : (∃ c, w1.cell? ⟨b, off + j * 3, none⟩ = some c ∧ w1.frozen? ⟨b, off + j * 3, none⟩ = false) ∧ (∃ c, w1.cell? ⟨b, off + j * 3 + 1, none⟩ = some c ∧ w1.frozen? ⟨b, off + j * 3 + 1, none⟩ = false) ∧ (∃ c, w1.cell? ⟨b, off + j * 3 + 2, none⟩ = some c ∧ w1.frozen? ⟨b, off + j * 3 + 2, none⟩ = false) := ⟨hA1 (j * 3 + 0) (by omega), hA1 (j * 3 + 1) (by omega), hA1 (j * 3 + 2) (by omega)⟩
      go_wp2_with fail
      go_roundw
      case rel => exact ⟨m + 3, j + 1, by omega, by rw [hm.out]; omega, by go_num, by go_num, (hA1.set (off + (j * 3 + 2)) _), by rw [Nat.succ_mul]; exact (hM1.step hA1 (by omega) hf2.out), (hw1.setCell (p := ⟨b, off + (j * 3 + 2), none⟩) (by dsimp only; omega) _), (hK1.set (p := ⟨b, off + (j * 3 + 2), none⟩) rfl _)⟩
      case measure => simp [intOf]; omega
    · obtain rfl : j = n := by omega
      go_wp2
      go_returns
      exact ⟨by rw [hm.out]; rfl, hM0, hw0, hK0⟩

set_option maxRecDepth 100000 in
set_option maxHeartbeats 4000000 in
theorem heldValS_c (b off n cap k : Nat) (hkn : k + n * 3 ≤ 4611686018427387904) (w : World) (hM : Mk w b off (n * 3) (mkVal k)) :
    Calls Try.prog 34 #[.slice (some ⟨b, off, none⟩) n cap, .int .i64 k] w fun e w' => e = .returned (.int .i64 (k + n * 3 : Nat)) ∧ Below w.heap.size w w' := by
  have hn : n ≤ 4611686018427387904 := by omega
  go_enter Try.func34, Try.ntmps34
  go_wp2_with fail
  go_loopw [1, 5] (fun kk i wr => ∃ m j : Nat, j ≤ n ∧ m = k + j * 3 ∧ kk = .int .i64 m ∧ i = .int .i64 j ∧ Below w.heap.size w wr) (fun _ i _ => n - (intOf i).toNat)
  case atStart => exact ⟨k, 0, by omega, by omega, rfl, rfl, Below.refl _ _⟩
  case round =>
    obtain ⟨m, j, hj, hm, rfl, rfl, hw0⟩ := hrel
    replace hm := Lib.hid hm
    have hM0 := hM.below hw0
    by_cases hlt : j < n
    · have hm1 : m + 3 ≤ 4611686018427387904 := by have := hm.out; omega
      have hf0 : Value.int .i64 ((m : Int)) = mkVal k (j * 3 + 0) := (by show Value.int .i64 _ = Value.int .i64 ((m + 0 : Nat) : Int); congr 1 <;> omega : Value.int .i64 ((m : Int)) = Value.int .i64 ((m + 0 : Nat) : Int)).trans (cmk_at [0, 0, 1] k j 0 m (by decide) hm.out).symm
      have hf1 : Value.int .i64 ((m : Int) + 1) = mkVal k (j * 3 + 1) := (by show Value.int .i64 _ = Value.int .i64 ((m + 1 : Nat) : Int); congr 1 <;> omega : Value.int .i64 ((m : Int) + 1) = Value.int .i64 ((m + 1 : Nat) : Int)).trans (cmk_at [0, 0, 1] k j 1 m (by decide) hm.out).symm
      have hf2 : Value.string (markT (m + 2)) = mkVal k (j * 3 + 2) := (cmk_at [0, 0, 1] k j 2 m (by decide) hm.out).symm
      replace hf0 := Lib.hid hf0; replace hf1 := Lib.hid hf1; replace hf2 := Lib.hid hf2
      have r0 : wr.cell? ⟨b, off + j * 3, none⟩ = some (.int .i64 ((m : Int))) := (hM0 (j * 3 + 0) (by omega)).trans (by rw [hf0.out])
      have r1 : wr.cell? ⟨b, off + j * 3 + 1, none⟩ = some (.int .i64 ((m : Int) + 1)) := (hM0 (j * 3 + 1) (by omega)).trans (by rw [hf1.out])
      have r2 : ∀ z : Ext wr, z.val.cell? ⟨b, off + j * 3 + 2, none⟩ = some (.string (markT (m + 2))) := fun z => ((hM0.below z.property) (j * 3 + 2) (by omega)).trans (by rw [hf2.out])
      have ct := fun W => markText_z (m + 2) ((m : Int) + 1 + 1) (by omega) (by omega) W
      generalize markT (m + 2) = s2 at *
      go_wp2_with fail
      refine wp_region_ext_lit (by kernel_rfl) (by kernel_rfl) ?_
      repeat (go_big_quiet_step ((go_at_call 66; exact Calls.ext (ct _))))
      refine wpQuiet_nil ?_
      rintro w1 ⟨⟨_, hb⟩, rfl⟩
      have hw1 := hw0.trans (hb.mono hw0.size)
      have hM1 := hM0.below hb
      clear ct hb hM0 hw0 r0 r1 r2
      go_wp2
      go_roundw
      case rel => exact ⟨m + 3, j + 1, by omega, by rw [hm.out]; omega, by go_num, by go_num, hw1⟩
      case measure => simp [intOf]; omega
    · obtain rfl : j = n := by omega
      go_wp2
      go_returns
      exact ⟨by rw [hm.out]; rfl, hw0⟩

end Go.Proofs.Ytajbgkpjmgmdhaa
