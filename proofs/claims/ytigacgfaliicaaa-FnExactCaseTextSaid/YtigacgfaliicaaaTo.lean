/- The walks of the to functions: a copy in memory of its own. Printed by gen_helpers.py. -/
import Derived.Test.YtigacgfaliicaaaRows
import Derived.Test.YtigacgfaliicaaaTypes
namespace Go.Proofs.Ytigacgfaliicaaa
open Go.RowKit
set_option linter.unusedVariables false
set_option linter.unusedSimpArgs false
attribute [local go_sem] Ext.cell


theorem info_IntS : (Try.prog.info? 3).map (fun i => (i.zero, i.size, i.bytes)) = some (some (.int .i64 0), 1, 8) := by kernel_rfl

set_option maxHeartbeats 1000000 in
theorem toIntS_c (x : List Int) (u : Value) (lo : Nat) (hlen : (x.length : Int) ≤ 1048576) (w : World) (hx : Sl IntR 1 lo w u x) :
    Calls Try.prog 14 #[u] w fun e w' => ∃ v, e = .returned v ∧ Sl IntR 1 w.heap.size w' v x ∧ Below w.heap.size w w' := by
  obtain ⟨a1, c1, rfl, l1, m1, hh⟩ := hx
  obtain ⟨n, hn⟩ : ∃ n, n = x.length := ⟨_, rfl⟩
  have hlen1 : x.length ≤ 1048576 := by omega
  clear hlen
  rw [← hn] at l1 hlen1 ⊢
  have X1 := Lib.hid hn
  clear hn
  obtain ⟨i0, hi, hi0, hi1, hi2⟩ := info_parts info_IntS
  have I := Lib.hid hi; have I0 := Lib.hid hi0; have I1 := Lib.hid hi1; have I2 := Lib.hid hi2
  clear hi hi0 hi1 hi2
  go_enter Try.func14, Try.ntmps14
  go_wp2_with (at_make; refine wpList_makeN rfl _ _ _ rfl 3 i0 _ 1 Try.underlying23 I.out I0.out I1.out rfl n rfl rfl (by rw [I2.out]; omega) (by omega) ?_; intro w1 hb1 hs1 hA1 _hr1)
  clear _hr1
  go_loopw [4] (fun i wr => ∃ k : Nat, k ≤ n ∧ i = .int .i64 k ∧ Below w.heap.size w wr ∧ w.heap.size + 1 ≤ wr.heap.size ∧ Arr wr w.heap.size (n * 1) ∧ Filled IntR 1 wr w.heap.size k x) (fun i _ => n - (intOf i).toNat)
  case atStart => exact ⟨0, by omega, rfl, hb1, by omega, hA1, Filled.zero⟩
  case round =>
    clear hs1 hb1 hA1
    obtain ⟨k, hk, rfl, hw, hz, hA, hF⟩ := hrel
    by_cases hlt : k < n
    · obtain ⟨b1, o1, p, s1, _, rfl, P1, q1, r1⟩ := (hh.below IntR.good hw).get X1 hlt
      ·
        have Q1 := q1
        obtain ⟨rfl, _⟩ := q1
        have R1 : wr.cell? ⟨b1, o1 + k, none⟩ = some (.int .i64 p) := (by simpa using r1 0 _ rfl)
        clear r1
        have hA2 := hA; have hF2 := hF; have hw2 := hw; have hz2 : wr.heap.size ≤ wr.heap.size := Nat.le_refl _
        obtain ⟨d0, e0, f0⟩ := hA2 (k) (by omega)
        have Q3 := IntR.good.mono Q1 (Nat.zero_le _) |> fun _ => (⟨rfl, Q1.2⟩ : IntR (w.heap.size + 1) wr [.int .i64 p] p)
        go_wp2
        have S := Filled.step IntR.good hF2 hA2 hlt (off := k) (by omega) P1.out Q3 rfl
        go_roundw
        case rel => exact ⟨k + 1, by omega, by go_num, hw2.trans (below_storeRow w.heap.size [.int .i64 p] wr (k)), Nat.le_trans hz (Nat.le_trans hz2 (Nat.le_of_eq (size_storeRow w.heap.size [.int .i64 p] wr (k)).symm)), S.2, S.1⟩
        case measure => simp [intOf]; omega
    · go_wp2
      go_returns
      obtain rfl : k = n := by omega
      obtain rfl := X1.out
      exact ⟨_, rfl, hF.sl IntR.good (Nat.le_refl _) (by omega), hw⟩


theorem info_StringS : (Try.prog.info? 9).map (fun i => (i.zero, i.size, i.bytes)) = some (some (.string ⟨#[]⟩), 1, 16) := by kernel_rfl

set_option maxHeartbeats 1000000 in
theorem toStringS_c (x : List ByteArray) (u : Value) (lo : Nat) (hlen : bulkS (fun s : ByteArray => (s.size : Int)) x ≤ 1048576) (w : World) (hx : Sl StrR 1 lo w u x) :
    Calls Try.prog 13 #[u] w fun e w' => ∃ v, e = .returned v ∧ Sl StrR 1 w.heap.size w' v x ∧ Below w.heap.size w w' := by
  obtain ⟨a1, c1, rfl, l1, m1, hh⟩ := hx
  obtain ⟨n, hn⟩ : ∃ n, n = x.length := ⟨_, rfl⟩
  have hlen1 : x.length ≤ 1048576 := by have := length_le_bulkS (f := (fun s : ByteArray => (s.size : Int))) size_nonneg x; omega
  clear hlen
  rw [← hn] at l1 hlen1 ⊢
  have X1 := Lib.hid hn
  clear hn
  obtain ⟨i0, hi, hi0, hi1, hi2⟩ := info_parts info_StringS
  have I := Lib.hid hi; have I0 := Lib.hid hi0; have I1 := Lib.hid hi1; have I2 := Lib.hid hi2
  clear hi hi0 hi1 hi2
  go_enter Try.func13, Try.ntmps13
  go_wp2_with (at_make; refine wpList_makeN rfl _ _ _ rfl 9 i0 _ 1 Try.underlying22 I.out I0.out I1.out rfl n rfl rfl (by rw [I2.out]; omega) (by omega) ?_; intro w1 hb1 hs1 hA1 _hr1)
  clear _hr1
  go_loopw [4] (fun i wr => ∃ k : Nat, k ≤ n ∧ i = .int .i64 k ∧ Below w.heap.size w wr ∧ w.heap.size + 1 ≤ wr.heap.size ∧ Arr wr w.heap.size (n * 1) ∧ Filled StrR 1 wr w.heap.size k x) (fun i _ => n - (intOf i).toNat)
  case atStart => exact ⟨0, by omega, rfl, hb1, by omega, hA1, Filled.zero⟩
  case round =>
    clear hs1 hb1 hA1
    obtain ⟨k, hk, rfl, hw, hz, hA, hF⟩ := hrel
    by_cases hlt : k < n
    · obtain ⟨b1, o1, p, s1, _, rfl, P1, q1, r1⟩ := (hh.below StrR.good hw).get X1 hlt
      ·
        have Q1 := q1
        obtain ⟨rfl, _⟩ := q1
        have R1 : wr.cell? ⟨b1, o1 + k, none⟩ = some (.string p) := (by simpa using r1 0 _ rfl)
        clear r1
        have hA2 := hA; have hF2 := hF; have hw2 := hw; have hz2 : wr.heap.size ≤ wr.heap.size := Nat.le_refl _
        obtain ⟨d0, e0, f0⟩ := hA2 (k) (by omega)
        have Q3 := StrR.good.mono Q1 (Nat.zero_le _) |> fun _ => (⟨rfl, Q1.2⟩ : StrR (w.heap.size + 1) wr [.string p] p)
        go_wp2
        have S := Filled.step StrR.good hF2 hA2 hlt (off := k) (by omega) P1.out Q3 rfl
        go_roundw
        case rel => exact ⟨k + 1, by omega, by go_num, hw2.trans (below_storeRow w.heap.size [.string p] wr (k)), Nat.le_trans hz (Nat.le_trans hz2 (Nat.le_of_eq (size_storeRow w.heap.size [.string p] wr (k)).symm)), S.2, S.1⟩
        case measure => simp [intOf]; omega
    · go_wp2
      go_returns
      obtain rfl : k = n := by omega
      obtain rfl := X1.out
      exact ⟨_, rfl, hF.sl StrR.good (Nat.le_refl _) (by omega), hw⟩


set_option maxHeartbeats 1000000 in
theorem toCase_c (x : GCase) (r : List Value) (lo : Nat) (hl : x.bulk ≤ 1048576) (w : World) (hx : GCase.R lo w r x) :
    Calls Try.prog 6 #[.agg r.toArray] w fun e w' => ∃ r', e = .returned (.agg r'.toArray) ∧ GCase.R w.heap.size w' r' x ∧ Below w.heap.size w w' := by
  obtain ⟨x0, x1, x2, x3⟩ := x
  obtain ⟨u0, u1, u2, rfl, wx0, a0, a1, a2⟩ := hx
  dsimp only at *
  have z0 := size_nonneg x0
  have z1 := bulkS_nonneg size_nonneg x1
  have z2 := length_nonneg x2
  have z3 := bulkS_nonneg size_nonneg x3
  simp only [GCase.bulk] at hl
  go_enter Try.func6, Try.ntmps6
  go_wp2_with (first | (go_at_call 13; ((with_reducible refine (toStringS_c x1 u0 lo ?_ _ ?_).mono ?_); omega; exact a0.below StrR.good (by go_grown); rintro e w1 ⟨v0, rfl, c0, hb⟩; have c0 := c0.mono StrR.good (show w.heap.size + 3 ≤ _ by (try simp only [World.size_alloc, World.size_setCell, World.size_drew]); omega); obtain ⟨av0, cv0, rfl⟩ := c0.form; have hw : Below w.heap.size w w1 := Below.trans (by go_grown) (hb.mono (by go_grown)); obtain ⟨hc, hf⟩ := bcell hb; have hz := hw.size; have hz1 := hb.size; have hs0 : w.heap.size < w1.heap.size := (by have h := hz1; (try simp only [World.size_alloc, World.size_setCell, World.size_drew] at h); omega); have hs1 : w.heap.size + 1 < w1.heap.size := (by have h := hz1; (try simp only [World.size_alloc, World.size_setCell, World.size_drew] at h); omega); have hs2 : w.heap.size + 1 + 1 < w1.heap.size := (by have h := hz1; (try simp only [World.size_alloc, World.size_setCell, World.size_drew] at h); omega); clear hb)) | (go_at_call 14; ((with_reducible refine (toIntS_c x2 u1 lo ?_ _ ?_).mono ?_); omega; exact a1.below IntR.good (by go_grown); rintro e w1 ⟨v1, rfl, c1, hb⟩; have c0 := (c0.agree StrR.good (by repeat' (first | with_reducible exact Agree.refl _ _ | with_reducible refine Agree.setCell ?_ ?_ _ | (dsimp only; omega)))).below StrR.good hb; have c1 := c1.mono IntR.good (show w.heap.size + 3 ≤ _ by (try simp only [World.size_alloc, World.size_setCell, World.size_drew]); omega); obtain ⟨av1, cv1, rfl⟩ := c1.form; have hw : Below w.heap.size w w1 := Below.trans (by go_grown) (hb.mono (by go_grown)); obtain ⟨hc, hf⟩ := bcell hb; have hz := hw.size; have hz1 := hb.size; have hs0 : w.heap.size < w1.heap.size := (by have h := hz1; (try simp only [World.size_alloc, World.size_setCell, World.size_drew] at h); omega); have hs1 : w.heap.size + 1 < w1.heap.size := (by have h := hz1; (try simp only [World.size_alloc, World.size_setCell, World.size_drew] at h); omega); have hs2 : w.heap.size + 1 + 1 < w1.heap.size := (by have h := hz1; (try simp only [World.size_alloc, World.size_setCell, World.size_drew] at h); omega); clear hb)) | (go_at_call 13; ((with_reducible refine (toStringS_c x3 u2 lo ?_ _ ?_).mono ?_); omega; exact a2.below StrR.good (by go_grown); rintro e w1 ⟨v2, rfl, c2, hb⟩; have c0 := (c0.agree StrR.good (by repeat' (first | with_reducible exact Agree.refl _ _ | with_reducible refine Agree.setCell ?_ ?_ _ | (dsimp only; omega)))).below StrR.good hb; have c1 := (c1.agree IntR.good (by repeat' (first | with_reducible exact Agree.refl _ _ | with_reducible refine Agree.setCell ?_ ?_ _ | (dsimp only; omega)))).below IntR.good hb; have c2 := c2.mono StrR.good (show w.heap.size + 3 ≤ _ by (try simp only [World.size_alloc, World.size_setCell, World.size_drew]); omega); obtain ⟨av2, cv2, rfl⟩ := c2.form; have hw : Below w.heap.size w w1 := Below.trans (by go_grown) (hb.mono (by go_grown)); obtain ⟨hc, hf⟩ := bcell hb; have hz := hw.size; have hz1 := hb.size; have hs0 : w.heap.size < w1.heap.size := (by have h := hz1; (try simp only [World.size_alloc, World.size_setCell, World.size_drew] at h); omega); have hs1 : w.heap.size + 1 < w1.heap.size := (by have h := hz1; (try simp only [World.size_alloc, World.size_setCell, World.size_drew] at h); omega); have hs2 : w.heap.size + 1 + 1 < w1.heap.size := (by have h := hz1; (try simp only [World.size_alloc, World.size_setCell, World.size_drew] at h); omega); clear hb)))
  refine bodyPost_ret (v := .agg #[.string x0, .slice av0 x1.length cv0, .slice av1 x2.length cv1, .slice av2 x3.length cv2]) (by simp [results, Try.results6, go_sem, *]) rfl ?_
  refine ⟨[.string x0, .slice av0 x1.length cv0, .slice av1 x2.length cv1, .slice av2 x3.length cv2], rfl, ⟨_, _, _, rfl, wx0, (c0.agree StrR.good (by repeat' (first | with_reducible exact Agree.refl _ _ | with_reducible refine Agree.setCell ?_ ?_ _ | (dsimp only; omega)))).mono StrR.good (by omega), (c1.agree IntR.good (by repeat' (first | with_reducible exact Agree.refl _ _ | with_reducible refine Agree.setCell ?_ ?_ _ | (dsimp only; omega)))).mono IntR.good (by omega), (c2.agree StrR.good (by repeat' (first | with_reducible exact Agree.refl _ _ | with_reducible refine Agree.setCell ?_ ?_ _ | (dsimp only; omega)))).mono StrR.good (by omega)⟩, by go_grown⟩


end Go.Proofs.Ytigacgfaliicaaa