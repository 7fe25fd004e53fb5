/- Marks of []Cell: printed by gen_marks.py. -/
import Derived.Test.YtajbgkpjmgmdhaaGrow
namespace Go.Proofs.Ytajbgkpjmgmdhaa
open Go.RowKit
set_option linter.unusedVariables false
set_option linter.unusedSimpArgs false
attribute [local go_sem] Ext.cell

def mkCell (k j : Nat) : Value := cmk [0, 0, 1, 0, 0, 1, 0, 0, 1] k j

set_option maxRecDepth 100000 in
set_option maxHeartbeats 4000000 in
theorem markCellS_c (b off n cap k lo : Nat) (hlo : lo ≤ b) (hkn : k + n * 9 ≤ 4611686018427387904) (w : World) (hb0 : b < w.heap.size) (hA : Wr w b off (n * 9)) :
    Calls Try.prog 32 #[.slice (some ⟨b, off, none⟩) n cap, .int .i64 k] w fun e w' => e = .returned (.int .i64 (k + n * 9 : Nat)) ∧ Mk w' b off (n * 9) (mkCell k) ∧ Below lo w w' ∧ Kept (· = b) w w' := by
  have hn : n ≤ 4611686018427387904 := by omega
  go_enter Try.func32, Try.ntmps32
  go_wp2_with fail
  go_loopw [1, 5] (fun kk i wr => ∃ m j : Nat, j ≤ n ∧ m = k + j * 9 ∧ kk = .int .i64 m ∧ i = .int .i64 j ∧ Wr wr b off (n * 9) ∧ Mk wr b off (j * 9) (mkCell k) ∧ Below lo w wr ∧ Kept (· = b) w wr) (fun _ i _ => n - (intOf i).toNat)
  case atStart => exact ⟨k, 0, by omega, by omega, rfl, rfl, hA, fun j hj => absurd hj (by omega), Below.refl _ _, Kept.refl _ _⟩
  case round =>
    obtain ⟨m, j, hj, hm, rfl, rfl, hA0, hM0, hw0, hK0⟩ := hrel
    have hz0 := hw0.size
    replace hm := Lib.hid hm
    clear hA
    by_cases hlt : j < n
    · have hm1 : m + 9 ≤ 4611686018427387904 := by have := hm.out; omega
      have hf0 : Value.int .i64 ((m : Int)) = mkCell k (j * 9 + 0) := (by show Value.int .i64 _ = Value.int .i64 ((m + 0 : Nat) : Int); congr 1 <;> omega : Value.int .i64 ((m : Int)) = Value.int .i64 ((m + 0 : Nat) : Int)).trans (cmk_at [0, 0, 1, 0, 0, 1, 0, 0, 1] k j 0 m (by decide) hm.out).symm
      have hf1 : Value.int .i64 ((m : Int) + 1) = mkCell k (j * 9 + 1) := (by show Value.int .i64 _ = Value.int .i64 ((m + 1 : Nat) : Int); congr 1 <;> omega : Value.int .i64 ((m : Int) + 1) = Value.int .i64 ((m + 1 : Nat) : Int)).trans (cmk_at [0, 0, 1, 0, 0, 1, 0, 0, 1] k j 1 m (by decide) hm.out).symm
      have hf2 : Value.string (markT (m + 2)) = mkCell k (j * 9 + 2) := (cmk_at [0, 0, 1, 0, 0, 1, 0, 0, 1] k j 2 m (by decide) hm.out).symm
      have hf3 : Value.int .i64 ((m : Int) + 1 + 1 + 1) = mkCell k (j * 9 + 3) := (by show Value.int .i64 _ = Value.int .i64 ((m + 3 : Nat) : Int); congr 1 <;> omega : Value.int .i64 ((m : Int) + 1 + 1 + 1) = Value.int .i64 ((m + 3 : Nat) : Int)).trans (cmk_at [0, 0, 1, 0, 0, 1, 0, 0, 1] k j 3 m (by decide) hm.out).symm
      have hf4 : Value.int .i64 ((m : Int) + 1 + 1 + 1 + 1) = mkCell k (j * 9 + 4) := (by show Value.int .i64 _ = Value.int .i64 ((m + 4 : Nat) : Int); congr 1 <;> omega : Value.int .i64 ((m : Int) + 1 + 1 + 1 + 1) = Value.int .i64 ((m + 4 : Nat) : Int)).trans (cmk_at [0, 0, 1, 0, 0, 1, 0, 0, 1] k j 4 m (by decide) hm.out).symm
      have hf5 : Value.string (markT (m + 5)) = mkCell k (j * 9 + 5) := (cmk_at [0, 0, 1, 0, 0, 1, 0, 0, 1] k j 5 m (by decide) hm.out).symm
      have hf6 : Value.int .i64 ((m : Int) + 1 + 1 + 1 + 1 + 1 + 1) = mkCell k (j * 9 + 6) := (by show Value.int .i64 _ = Value.int .i64 ((m + 6 : Nat) : Int); congr 1 <;> omega : Value.int .i64 ((m : Int) + 1 + 1 + 1 + 1 + 1 + 1) = Value.int .i64 ((m + 6 : Nat) : Int)).trans (cmk_at [0, 0, 1, 0, 0, 1, 0, 0, 1] k j 6 m (by decide) hm.out).symm
      have hf7 : Value.int .i64 ((m : Int) + 1 + 1 + 1 + 1 + 1 + 1 + 1) = mkCell k (j * 9 + 7) := (by show Value.int .i64 _ = Value.int .i64 ((m + 7 : Nat) : Int); congr 1 <;> omega : Value.int .i64 ((m : Int) + 1 + 1 + 1 + 1 + 1 + 1 + 1) = Value.int .i64 ((m + 7 : Nat) : Int)).trans (cmk_at [0, 0, 1, 0, 0, 1, 0, 0, 1] k j 7 m (by decide) hm.out).symm
      have hf8 : Value.string (markT (m + 8)) = mkCell k (j * 9 + 8) := (cmk_at [0, 0, 1, 0, 0, 1, 0, 0, 1] k j 8 m (by decide) hm.out).symm
      replace hf0 := Lib.hid hf0; replace hf1 := Lib.hid hf1; replace hf2 := Lib.hid hf2; replace hf3 := Lib.hid hf3; replace hf4 := Lib.hid hf4; replace hf5 := Lib.hid hf5; replace hf6 := Lib.hid hf6; replace hf7 := Lib.hid hf7; replace hf8 := Lib.hid hf8
      obtain ⟨⟨c0, e0, f0⟩, ⟨c1, e1, f1⟩, ⟨c2, e2, f2⟩, ⟨c3, e3, f3⟩, ⟨c4, e4, f4⟩, ⟨c5, e5, f5⟩, ⟨c6, e6, f6⟩, ⟨c7, e7, f7⟩, ⟨c8, e8, f8⟩⟩ : (∃ c, wr.cell? ⟨b, off + j * 9, none⟩ = some c ∧ wr.frozen? ⟨b, off + j * 9, none⟩ = false) ∧ (∃ c, wr.cell? ⟨b, off + j * 9 + 1, none⟩ = some c ∧ wr.frozen? ⟨b, off + j * 9 + 1, none⟩ = false) ∧ (∃ c, wr.cell? ⟨b, off + j * 9 + 2, none⟩ = some c ∧ wr.frozen? ⟨b, off + j * 9 + 2, none⟩ = false) ∧ (∃ c, wr.cell? ⟨b, off + j * 9 + 3, none⟩ = some c ∧ wr.frozen? ⟨b, off + j * 9 + 3, none⟩ = false) ∧ (∃ c, wr.cell? ⟨b, off + j * 9 + 4, none⟩ = some c ∧ wr.frozen? ⟨b, off + j * 9 + 4, none⟩ = false) ∧ (∃ c, wr.cell? ⟨b, off + j * 9 + 5, none⟩ = some c ∧ wr.frozen? ⟨b, off + j * 9 + 5, none⟩ = false) ∧ (∃ c, wr.cell? ⟨b, off + j * 9 + 6, none⟩ = some c ∧ wr.frozen? ⟨b, off + j * 9 + 6, none⟩ = false) ∧ (∃ c, wr.cell? ⟨b, off + j * 9 + 7, none⟩ = some c ∧ wr.frozen? ⟨b, off + j * 9 + 7, none⟩ = false) ∧ (∃ c, wr.cell? ⟨b, off + j * 9 + 8, none⟩ = some c ∧ wr.frozen? ⟨b, off + j * 9 + 8, none⟩ = false) := ⟨hA0 (j * 9 + 0) (by omega), hA0 (j * 9 + 1) (by omega), hA0 (j * 9 + 2) (by omega), hA0 (j * 9 + 3) (by omega), hA0 (j * 9 + 4) (by omega), hA0 (j * 9 + 5) (by omega), hA0 (j * 9 + 6) (by omega), hA0 (j * 9 + 7) (by omega), hA0 (j * 9 + 8) (by omega)⟩
      go_wp2_with fail
      refine (markText_z (m + 2) ((m : Int) + 1 + 1) (by omega) (by omega) _).mono ?_
      rintro e w1 ⟨rfl, hb⟩
      have hA1 : Wr w1 b off (n * 9) := ((hA0.set (off + (j * 9 + 0)) _).set (off + (j * 9 + 1)) _).below hb
      have hM1 : Mk w1 b off (j * 9 + 2) (mkCell k) := ((hM0.step hA0 (by omega) hf0.out).step (hA0.set (off + (j * 9 + 0)) _) (by omega) hf1.out).below hb
      have hz1 : w.heap.size ≤ w1.heap.size := Nat.le_trans (by simpa [World.setCell] using hz0) hb.size
      have hw1 : Below lo w w1 := ((hw0.setCell (p := ⟨b, off + (j * 9 + 0), none⟩) (by dsimp only; omega) _).setCell (p := ⟨b, off + (j * 9 + 1), none⟩) (by dsimp only; omega) _).trans (hb.mono (by have := hz0; simp [World.setCell]; omega))
      have hK1 : Kept (· = b) w w1 := ((hK0.set (p := ⟨b, off + (j * 9 + 0), none⟩) rfl _).set (p := ⟨b, off + (j * 9 + 1), none⟩) rfl _).trans (by simpa [World.setCell] using hz0) (Kept.below hb)
      clear hA0 hM0 hz0 hw0 hK0 hb
      clear e0 f0 e1 f1 e2 f2 e3 f3 e4 f4 e5 f5 e6 f6 e7 f7 e8 f8
      obtain ⟨⟨c0, e0, f0⟩, ⟨c1, e1, f1⟩, ⟨c2, e2, f2⟩, ⟨c3, e3, f3⟩, ⟨c4, e4, f4⟩, ⟨c5, e5, f5⟩, ⟨c6, e6, f6⟩, ⟨c7, e7, f7⟩, ⟨c8, e8, f8⟩⟩ : (∃ c, w1.cell? ⟨b, off + j * 9, none⟩ = some c ∧ w1.frozen? ⟨b, off + j * 9, none⟩ = false) ∧ (∃ c, w1.cell? ⟨b, off + j * 9 + 1, none⟩ = some c ∧ w1.frozen? ⟨b, off + j * 9 + 1, none⟩ = false) ∧ (∃ c, w1.cell? ⟨b, off + j * 9 + 2, none⟩ = some c ∧ w1.frozen? ⟨b, off + j * 9 + 2, none⟩ = false) ∧ (∃ c, w1.cell? ⟨b, off + j * 9 + 3, none⟩ = some c ∧ w1.frozen? ⟨b, off + j * 9 + 3, none⟩ = false) ∧ (∃ c, w1.cell? ⟨b, off + j * 9 + 4, none⟩ = some c ∧ w1.frozen? ⟨b, off + j * 9 + 4, none⟩ = false) ∧ (∃ c, w1.cell? ⟨b, off + j * 9 + 5, none⟩ = some c ∧ w1.frozen? ⟨b, off + j * 9 + 5, none⟩ = false) ∧ (∃ c, w1.cell? ⟨b, off + j * 9 + 6, none⟩ = some c ∧ w1.frozen? ⟨b, off + j * 9 + 6, none⟩ = false) ∧ (∃ c, w1.cell? ⟨b, off + j * 9 + 7, none⟩ = some c ∧ w1.frozen? ⟨b, off + j * 9 + 7, none⟩ = false) ∧ (∃ c, w1.cell? ⟨b, off + j * 9 + 8, none⟩ = some c ∧ w1.frozen? ⟨b, off + j * 9 + 8, none⟩ = false) := ⟨hA1 (j * 9 + 0) (by omega), hA1 (j * 9 + 1) (by omega), hA1 (j * 9 + 2) (by omega), hA1 (j * 9 + 3) (by omega), hA1 (j * 9 + 4) (by omega), hA1 (j * 9 + 5) (by omega), hA1 (j * 9 + 6) (by omega), hA1 (j * 9 + 7) (by omega), hA1 (j * 9 + 8) (by omega)⟩
      go_wp2_with fail
      refine (markText_z (m + 5) ((m : Int) + 1 + 1 + 1 + 1 + 1) (by omega) (by omega) _).mono ?_
      rintro e w2 ⟨rfl, hb⟩
      have hA2 : Wr w2 b off (n * 9) := (((hA1.set (off + (j * 9 + 2)) _).set (off + (j * 9 + 3)) _).set (off + (j * 9 + 4)) _).below hb
      have hM2 : Mk w2 b off (j * 9 + 5) (mkCell k) := (((hM1.step hA1 (by omega) hf2.out).step (hA1.set (off + (j * 9 + 2)) _) (by omega) hf3.out).step ((hA1.set (off + (j * 9 + 2)) _).set (off + (j * 9 + 3)) _) (by omega) hf4.out).below hb
      have hz2 : w.heap.size ≤ w2.heap.size := Nat.le_trans (by simpa [World.setCell] using hz1) hb.size
      have hw2 : Below lo w w2 := (((hw1.setCell (p := ⟨b, off + (j * 9 + 2), none⟩) (by dsimp only; omega) _).setCell (p := ⟨b, off + (j * 9 + 3), none⟩) (by dsimp only; omega) _).setCell (p := ⟨b, off + (j * 9 + 4), none⟩) (by dsimp only; omega) _).trans (hb.mono (by have := hz1; simp [World.setCell]; omega))
      have hK2 : Kept (· = b) w w2 := (((hK1.set (p := ⟨b, off + (j * 9 + 2), none⟩) rfl _).set (p := ⟨b, off + (j * 9 + 3), none⟩) rfl _).set (p := ⟨b, off + (j * 9 + 4), none⟩) rfl _).trans (by simpa [World.setCell] using hz1) (Kept.below hb)
      clear hA1 hM1 hz1 hw1 hK1 hb
      clear e0 f0 e1 f1 e2 f2 e3 f3 e4 f4 e5 f5 e6 f6 e7 f7 e8 f8
      obtain ⟨⟨c0, e0, f0⟩, ⟨c1, e1, f1⟩, ⟨c2, e2, f2⟩, ⟨c3, e3, f3⟩, ⟨c4, e4, f4⟩, ⟨c5, e5, f5⟩, ⟨c6, e6, f6⟩, ⟨c7, e7, f7⟩, ⟨c8, e8, f8⟩⟩ : (∃ c, w2.cell? ⟨b, off + j * 9, none⟩ = some c ∧ w2.frozen? ⟨b, off + j * 9, none⟩ = false) ∧ (∃ c, w2.cell? ⟨b, off + j * 9 + 1, none⟩ = some c ∧ w2.frozen? ⟨b, off + j * 9 + 1, none⟩ = false) ∧ (∃ c, w2.cell? ⟨b, off + j * 9 + 2, none⟩ = some c ∧ w2.frozen? ⟨b, off + j * 9 + 2, none⟩ = false) ∧ (∃ c, w2.cell? ⟨b, off + j * 9 + 3, none⟩ = some c ∧ w2.frozen? ⟨b, off + j * 9 + 3, none⟩ = false) ∧ (∃ c, w2.cell? ⟨b, off + j * 9 + 4, none⟩ = some c ∧ w2.frozen? ⟨b, off + j * 9 + 4, none⟩ = false) ∧ (∃ c, w2.cell? ⟨b, off + j * 9 + 5, none⟩ = some c ∧ w2.frozen? ⟨b, off + j * 9 + 5, none⟩ = false) ∧ (∃ c, w2.cell? ⟨b, off + j * 9 + 6, none⟩ = some c ∧ w2.frozen? ⟨b, off + j * 9 + 6, none⟩ = false) ∧ (∃ c, w2.cell? ⟨b, off + j * 9 + 7, none⟩ = some c ∧ w2.frozen? ⟨b, off + j * 9 + 7, none⟩ = false) ∧ (∃ c, w2.cell? ⟨b, off + j * 9 + 8, none⟩ = some c ∧ w2.frozen? ⟨b, off + j * 9 + 8, none⟩ = false) := ⟨hA2 (j * 9 + 0) (by omega), hA2 (j * 9 + 1) (by omega), hA2 (j * 9 + 2) (by omega), hA2 (j * 9 + 3) (by omega), hA2 (j * 9 + 4) (by omega), hA2 (j * 9 + 5) (by omega), hA2 (j * 9 + 6) (by omega), hA2 (j * 9 + 7) (by omega), hA2 (j * 9 + 8) (by omega)⟩
      go_wp2_with fail
      refine (markText_z (m + 8) ((m : Int) + 1 + 1 + 1 + 1 + 1 + 1 + 1 + 1) (by omega) (by omega) _).mono ?_
      rintro e w3 ⟨rfl, hb⟩
      have hA3 : Wr w3 b off (n * 9) := (((hA2.set (off + (j * 9 + 5)) _).set (off + (j * 9 + 6)) _).set (off + (j * 9 + 7)) _).below hb
      have hM3 : Mk w3 b off (j * 9 + 8) (mkCell k) := (((hM2.step hA2 (by omega) hf5.out).step (hA2.set (off + (j * 9 + 5)) _) (by omega) hf6.out).step ((hA2.set (off + (j * 9 + 5)) _).set (off + (j * 9 + 6)) _) (by omega) hf7.out).below hb
      have hz3 : w.heap.size ≤ w3.heap.size := Nat.le_trans (by simpa [World.setCell] using hz2) hb.size
      have hw3 : Below lo w w3 := (((hw2.setCell (p := ⟨b, off + (j * 9 + 5), none⟩) (by dsimp only; omega) _).setCell (p := ⟨b, off + (j * 9 + 6), none⟩) (by dsimp only; omega) _).setCell (p := ⟨b, off + (j * 9 + 7), none⟩) (by dsimp only; omega) _).trans (hb.mono (by have := hz2; simp [World.setCell]; omega))
      have hK3 : Kept (· = b) w w3 := (((hK2.set (p := ⟨b, off + (j * 9 + 5), none⟩) rfl _).set (p := ⟨b, off + (j * 9 + 6), none⟩) rfl _).set (p := ⟨b, off + (j * 9 + 7), none⟩) rfl _).trans (by simpa [World.setCell] using hz2) (Kept.below hb)
      clear hA2 hM2 hz2 hw2 hK2 hb
      clear e0 f0 e1 f1 e2 f2 e3 f3 e4 f4 e5 f5 e6 f6 e7 f7 e8 f8
      obtain ⟨⟨c0, e0, f0⟩, ⟨c1, e1, f1⟩, ⟨c2, e2, f2⟩, ⟨c3, e3, f3⟩, ⟨c4, e4, f4⟩, ⟨c5, e5, f5⟩, ⟨c6, e6, f6⟩, ⟨c7, e7, f7⟩, ⟨c8, e8, f8⟩⟩ : (∃ c, w3.cell? ⟨b, off + j * 9, none⟩ = some c ∧ w3.frozen? ⟨b, off + j * 9, none⟩ = false) ∧ (∃ c, w3.cell? ⟨b, off + j * 9 + 1, none⟩ = some c ∧ w3.frozen? ⟨b, off + j * 9 + 1, none⟩ = false) ∧ (∃ c, w3.cell? ⟨b, off + j * 9 + 2, none⟩ = some c ∧ w3.frozen? ⟨b, off + j * 9 + 2, none⟩ = false) ∧ (∃ c, w3.cell? ⟨b, off + j * 9 + 3, none⟩ = some c ∧ w3.frozen? ⟨b, off + j * 9 + 3, none⟩ = false) ∧ (∃ c, w3.cell? ⟨b, off + j * 9 + 4, none⟩ = some c ∧ w3.frozen? ⟨b, off + j * 9 + 4, none⟩ = false) ∧ (∃ c, w3.cell? ⟨b, off + j * 9 + 5, none⟩ = some c ∧ w3.frozen? ⟨b, off + j * 9 + 5, none⟩ = false) ∧ (∃ c, w3.cell? ⟨b, off + j * 9 + 6, none⟩ = some c ∧ w3.frozen? ⟨b, off + j * 9 + 6, none⟩ = false) ∧ (∃ c, w3.cell? ⟨b, off + j * 9 + 7, none⟩ = some c ∧ w3.frozen? ⟨b, off + j * 9 + 7, none⟩ = false) ∧ (∃ c, w3.cell? ⟨b, off + j * 9 + 8, none⟩ = some c ∧ w3.frozen? ⟨b, off + j * 9 + 8, none⟩ = false) := ⟨hA3 (j * 9 + 0) (by omega), hA3 (j * 9 + 1) (by omega), hA3 (j * 9 + 2) (by omega), hA3 (j * 9 + 3) (by omega), hA3 (j * 9 + 4) (by omega), hA3 (j * 9 + 5) (by omega), hA3 (j * 9 + 6) (by omega), hA3 (j * 9 + 7) (by omega), hA3 (j * 9 + 8) (by omega)⟩
      go_wp2_with fail
      go_roundw
      case rel => exact ⟨m + 9, j + 1, by omega, by rw [hm.out]; omega, by go_num, by go_num, (hA3.set (off + (j * 9 + 8)) _), by rw [Nat.succ_mul]; exact (hM3.step hA3 (by omega) hf8.out), (hw3.setCell (p := ⟨b, off + (j * 9 + 8), none⟩) (by dsimp only; omega) _), (hK3.set (p := ⟨b, off + (j * 9 + 8), none⟩) rfl _)⟩
      case measure => simp [intOf]; omega
    · obtain rfl : j = n := by omega
      go_wp2
      go_returns
      exact ⟨by rw [hm.out]; rfl, hM0, hw0, hK0⟩

set_option maxRecDepth 100000 in
set_option maxHeartbeats 4000000 in
theorem heldCellS_c (b off n cap k : Nat) (hkn : k + n * 9 ≤ 4611686018427387904) (w : World) (hM : Mk w b off (n * 9) (mkCell k)) :
    Calls Try.prog 33 #[.slice (some ⟨b, off, none⟩) n cap, .int .i64 k] w fun e w' => e = .returned (.int .i64 (k + n * 9 : Nat)) ∧ Below w.heap.size w w' := by
  have hn : n ≤ 4611686018427387904 := by omega
  go_enter Try.func33, Try.ntmps33
  go_wp2_with fail
  go_loopw [1, 5] (fun kk i wr => ∃ m j : Nat, j ≤ n ∧ m = k + j * 9 ∧ kk = .int .i64 m ∧ i = .int .i64 j ∧ Below w.heap.size w wr) (fun _ i _ => n - (intOf i).toNat)
  case atStart => exact ⟨k, 0, by omega, by omega, rfl, rfl, Below.refl _ _⟩
  case round =>
    obtain ⟨m, j, hj, hm, rfl, rfl, hw0⟩ := hrel
    replace hm := Lib.hid hm
    have hM0 := hM.below hw0
    by_cases hlt : j < n
    · have hm1 : m + 9 ≤ 4611686018427387904 := by have := hm.out; omega
      have hf0 : Value.int .i64 ((m : Int)) = mkCell k (j * 9 + 0) := (by show Value.int .i64 _ = Value.int .i64 ((m + 0 : Nat) : Int); congr 1 <;> omega : Value.int .i64 ((m : Int)) = Value.int .i64 ((m + 0 : Nat) : Int)).trans (cmk_at [0, 0, 1, 0, 0, 1, 0, 0, 1] k j 0 m (by decide) hm.out).symm
      have hf1 : Value.int .i64 ((m : Int) + 1) = mkCell k (j * 9 + 1) := (by show Value.int .i64 _ = Value.int .i64 ((m + 1 : Nat) : Int); congr 1 <;> omega : Value.int .i64 ((m : Int) + 1) = Value.int .i64 ((m + 1 : Nat) : Int)).trans (cmk_at [0, 0, 1, 0, 0, 1, 0, 0, 1] k j 1 m (by decide) hm.out).symm
      have hf2 : Value.string (markT (m + 2)) = mkCell k (j * 9 + 2) := (cmk_at [0, 0, 1, 0, 0, 1, 0, 0, 1] k j 2 m (by decide) hm.out).symm
      have hf3 : Value.int .i64 ((m : Int) + 1 + 1 + 1) = mkCell k (j * 9 + 3) := (by show Value.int .i64 _ = Value.int .i64 ((m + 3 : Nat) : Int); congr 1 <;> omega : Value.int .i64 ((m : Int) + 1 + 1 + 1) = Value.int .i64 ((m + 3 : Nat) : Int)).trans (cmk_at [0, 0, 1, 0, 0, 1, 0, 0, 1] k j 3 m (by decide) hm.out).symm
      have hf4 : Value.int .i64 ((m : Int) + 1 + 1 + 1 + 1) = mkCell k (j * 9 + 4) := (by show Value.int .i64 _ = Value.int .i64 ((m + 4 : Nat) : Int); congr 1 <;> omega : Value.int .i64 ((m : Int) + 1 + 1 + 1 + 1) = Value.int .i64 ((m + 4 : Nat) : Int)).trans (cmk_at [0, 0, 1, 0, 0, 1, 0, 0, 1] k j 4 m (by decide) hm.out).symm
      have hf5 : Value.string (markT (m + 5)) = mkCell k (j * 9 + 5) := (cmk_at [0, 0, 1, 0, 0, 1, 0, 0, 1] k j 5 m (by decide) hm.out).symm
      have hf6 : Value.int .i64 ((m : Int) + 1 + 1 + 1 + 1 + 1 + 1) = mkCell k (j * 9 + 6) := (by show Value.int .i64 _ = Value.int .i64 ((m + 6 : Nat) : Int); congr 1 <;> omega : Value.int .i64 ((m : Int) + 1 + 1 + 1 + 1 + 1 + 1) = Value.int .i64 ((m + 6 : Nat) : Int)).trans (cmk_at [0, 0, 1, 0, 0, 1, 0, 0, 1] k j 6 m (by decide) hm.out).symm
      have hf7 : Value.int .i64 ((m : Int) + 1 + 1 + 1 + 1 + 1 + 1 + 1) = mkCell k (j * 9 + 7) := (by show Value.int .i64 _ = Value.int .i64 ((m + 7 : Nat) : Int); congr 1 <;> omega : Value.int .i64 ((m : Int) + 1 + 1 + 1 + 1 + 1 + 1 + 1) = Value.int .i64 ((m + 7 : Nat) : Int)).trans (cmk_at [0, 0, 1, 0, 0, 1, 0, 0, 1] k j 7 m (by decide) hm.out).symm
      have hf8 : Value.string (markT (m + 8)) = mkCell k (j * 9 + 8) := (cmk_at [0, 0, 1, 0, 0, 1, 0, 0, 1] k j 8 m (by decide) hm.out).symm
      replace hf0 := Lib.hid hf0; replace hf1 := Lib.hid hf1; replace hf2 := Lib.hid hf2; replace hf3 := Lib.hid hf3; replace hf4 := Lib.hid hf4; replace hf5 := Lib.hid hf5; replace hf6 := Lib.hid hf6; replace hf7 := Lib.hid hf7; replace hf8 := Lib.hid hf8
      have r0 : wr.cell? ⟨b, off + j * 9, none⟩ = some (.int .i64 ((m : Int))) := (hM0 (j * 9 + 0) (by omega)).trans (by rw [hf0.out])
      have r1 : wr.cell? ⟨b, off + j * 9 + 1, none⟩ = some (.int .i64 ((m : Int) + 1)) := (hM0 (j * 9 + 1) (by omega)).trans (by rw [hf1.out])
      have r2 : ∀ z : Ext wr, z.val.cell? ⟨b, off + j * 9 + 2, none⟩ = some (.string (markT (m + 2))) := fun z => ((hM0.below z.property) (j * 9 + 2) (by omega)).trans (by rw [hf2.out])
      have ct := fun W => markText_z (m + 2) ((m : Int) + 1 + 1) (by omega) (by omega) W
      generalize markT (m + 2) = s2 at *
      go_wp2_with fail
      refine wp_region_ext_lit (by kernel_rfl) (by kernel_rfl) ?_
      repeat (go_big_quiet_step ((go_at_call 66; exact Calls.ext (ct _))))
      refine wpQuiet_nil ?_
      rintro w1 ⟨⟨_, hb⟩, rfl⟩
      have hw1 := hw0.trans (hb.mono hw0.size)
      have hM1 := hM0.below hb
      clear ct hb hM0 hw0 r0 r1 r2
      have r3 : w1.cell? ⟨b, off + j * 9 + 3, none⟩ = some (.int .i64 ((m : Int) + 1 + 1 + 1)) := (hM1 (j * 9 + 3) (by omega)).trans (by rw [hf3.out])
      have r4 : w1.cell? ⟨b, off + j * 9 + 4, none⟩ = some (.int .i64 ((m : Int) + 1 + 1 + 1 + 1)) := (hM1 (j * 9 + 4) (by omega)).trans (by rw [hf4.out])
      have r5 : ∀ z : Ext w1, z.val.cell? ⟨b, off + j * 9 + 5, none⟩ = some (.string (markT (m + 5))) := fun z => ((hM1.below z.property) (j * 9 + 5) (by omega)).trans (by rw [hf5.out])
      have ct := fun W => markText_z (m + 5) ((m : Int) + 1 + 1 + 1 + 1 + 1) (by omega) (by omega) W
      generalize markT (m + 5) = s5 at *
      go_wp2_with fail
      refine wp_region_ext_lit (by kernel_rfl) (by kernel_rfl) ?_
      repeat (go_big_quiet_step ((go_at_call 66; exact Calls.ext (ct _))))
      refine wpQuiet_nil ?_
      rintro w2 ⟨⟨_, hb⟩, rfl⟩
      have hw2 := hw1.trans (hb.mono hw1.size)
      have hM2 := hM1.below hb
      clear ct hb hM1 hw1 r3 r4 r5
      have r6 : w2.cell? ⟨b, off + j * 9 + 6, none⟩ = some (.int .i64 ((m : Int) + 1 + 1 + 1 + 1 + 1 + 1)) := (hM2 (j * 9 + 6) (by omega)).trans (by rw [hf6.out])
      have r7 : w2.cell? ⟨b, off + j * 9 + 7, none⟩ = some (.int .i64 ((m : Int) + 1 + 1 + 1 + 1 + 1 + 1 + 1)) := (hM2 (j * 9 + 7) (by omega)).trans (by rw [hf7.out])
      have r8 : ∀ z : Ext w2, z.val.cell? ⟨b, off + j * 9 + 8, none⟩ = some (.string (markT (m + 8))) := fun z => ((hM2.below z.property) (j * 9 + 8) (by omega)).trans (by rw [hf8.out])
      have ct := fun W => markText_z (m + 8) ((m : Int) + 1 + 1 + 1 + 1 + 1 + 1 + 1 + 1) (by omega) (by omega) W
      generalize markT (m + 8) = s8 at *
      go_wp2_with fail
      refine wp_region_ext_lit (by kernel_rfl) (by kernel_rfl) ?_
      repeat (go_big_quiet_step ((go_at_call 66; exact Calls.ext (ct _))))
      refine wpQuiet_nil ?_
      rintro w3 ⟨⟨_, hb⟩, rfl⟩
      have hw3 := hw2.trans (hb.mono hw2.size)
      have hM3 := hM2.below hb
      clear ct hb hM2 hw2 r6 r7 r8
      go_wp2
      go_roundw
      case rel => exact ⟨m + 9, j + 1, by omega, by rw [hm.out]; omega, by go_num, by go_num, hw3⟩
      case measure => simp [intOf]; omega
    · obtain rfl : j = n := by omega
      go_wp2
      go_returns
      exact ⟨by rw [hm.out]; rfl, hw0⟩

end Go.Proofs.Ytajbgkpjmgmdhaa
