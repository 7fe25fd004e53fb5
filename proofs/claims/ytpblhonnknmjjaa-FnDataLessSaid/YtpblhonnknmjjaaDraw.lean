/- The cursor of a draw. -/
import Derived.Test.YtpblhonnknmjjaaFlat
import Derived.Test.YtpblhonnknmjjaaFill
import Derived.Test.YtpblhonnknmjjaaRows
import Derived.Laws.Bits128
import Derived.Deep.RegionHeld3
import Derived.Deep.RegionLaw
namespace Go.Proofs.Ytpblhonnknmjjaa
open Go.RowKit
set_option linter.unusedVariables false
set_option linter.unusedSimpArgs false
attribute [local go_sem] Ext.cell

theorem and255 (n : Int) : bits .and .i64 n 255 = n % 256 := by
  have h127 : (BitVec.ofInt 64 255).toNat = 2 ^ 8 - 1 := by decide
  have key : (BitVec.ofInt 64 n &&& BitVec.ofInt 64 255).toNat = (n % ((2 ^ 64 : Nat) : Int)).toNat % 2 ^ 8 := by
    rw [BitVec.toNat_and, BitVec.toNat_ofInt, h127, Nat.and_two_pow_sub_one_eq_mod]
  show IntKind.i64.wrap ((BitVec.ofInt 64 n &&& BitVec.ofInt 64 255).toNat : Nat) = n % 256
  rw [key, IntKind.wrap_i64]
  omega
theorem and30 (n : Int) : bits .and .i64 n 1073741823 = n % 1073741824 := by
  have h127 : (BitVec.ofInt 64 1073741823).toNat = 2 ^ 30 - 1 := by decide
  have key : (BitVec.ofInt 64 n &&& BitVec.ofInt 64 1073741823).toNat = (n % ((2 ^ 64 : Nat) : Int)).toNat % 2 ^ 30 := by
    rw [BitVec.toNat_and, BitVec.toNat_ofInt, h127, Nat.and_two_pow_sub_one_eq_mod]
  show IntKind.i64.wrap ((BitVec.ofInt 64 n &&& BitVec.ofInt 64 1073741823).toNat : Nat) = n % 1073741824
  rw [key, IntKind.wrap_i64]
  omega
theorem wrap64_in (n : Int) : I64 (wrap64 n) := by unfold I64 wrap64; constructor <;> omega
/-- A cursor in box b, over bytes that lie in the world W0. -/
structure Cur (W0 w : World) (b : Nat) : Prop where
  ex : ∃ (s : Value) (bs : List UInt8) (i : Nat) (h : Int), RowAt w b 0 [s, .int .i64 (i : Int), .int .i64 h] ∧ Sl ByteR 1 0 W0 s bs ∧ i ≤ bs.length ∧ bs.length ≤ 1048576 ∧ I64 h
  wr : Wr w b 0 3
  below : Below W0.heap.size W0 w
  lo : W0.heap.size ≤ b
/-- What a draw leaves alone. -/
structure DF (W0 : World) (b : Nat) (w w' : World) : Prop where
  cur : Cur W0 w' b
  kept : Kept (· = b) w w'
  size : w.heap.size ≤ w'.heap.size

theorem Cur.lt {W0 w : World} {b : Nat} (h : Cur W0 w b) : b < w.heap.size := let ⟨s, bs, i, x, h1, _⟩ := h.ex; World.block_lt_of_cell? _ _ h1.box3.1

theorem RowAt.putAt {w : World} {b j : Nat} {r : List Value} (h : RowAt w b 0 r) (hj : j < r.length) (u : Value) : RowAt (w.setCell ⟨b, j, none⟩ u) b 0 (r.set j u) := fun i c hc => by
  rw [Nat.zero_add]
  by_cases e : j = i
  · subst e
    rw [List.getElem?_set_self hj] at hc
    obtain rfl := Option.some.inj hc
    have := h j _ (List.getElem?_eq_getElem hj)
    rw [Nat.zero_add] at this
    exact cell_setCell_eq w b j _ this
  · rw [List.getElem?_set_ne e] at hc
    have := h i c hc
    rw [Nat.zero_add] at this
    exact (cell_setCell_ne w b j i _ e).trans this

set_option maxRecDepth 100000 in
set_option maxHeartbeats 8000000 in
theorem l01Byte_c (W0 w : World) (b : Nat) (C : Cur W0 w b) :
    Calls Try.prog 40 #[.pointer (some ⟨b, 0, none⟩)] w fun e w' => ∃ x : Int, e = .returned (.int .i64 x) ∧ 0 ≤ x ∧ x ≤ 255 ∧ DF W0 b w w' := by
  obtain ⟨s, bs, i, h, R, hs, hi, hl, h64⟩ := C.ex
  obtain ⟨a0, c0, rfl, l0, m0, h0⟩ := hs
  have hbl := C.below
  have WR := C.wr
  have hlo := C.lo
  obtain ⟨n, hn⟩ : ∃ n, n = bs.length := ⟨_, rfl⟩
  rw [← hn] at l0 hi hl R
  obtain ⟨r_0, r_1, r_2⟩ := R.box3
  have f_2 := WR.frz 2 (by omega)
  replace hn := Lib.hid hn; replace h0 := Lib.hid h0; replace C := Lib.hid C
  go_enter Try.func40, Try.ntmps40
  go_upto_region 2 with fail
  obtain ⟨h', hh'⟩ : ∃ h', h' = wrap64 (wrap64 (h * 6364136223846793005) + 1442695040888963407) := ⟨_, rfl⟩
  have h64' : I64 h' := by rw [hh']; exact wrap64_in _
  rw [← hh']
  obtain ⟨w1, hW1⟩ : ∃ W, W = w.setCell ⟨b, 2, none⟩ (.int .i64 h') := ⟨_, rfl⟩
  rw [← hW1]
  have R1 : RowAt w1 b 0 [.slice a0 n c0, .int .i64 (i : Int), .int .i64 h'] := by rw [hW1]; exact R.putAt (j := 2) (by simp) _
  have K1 : Kept (· = b) w w1 := by rw [hW1]; exact Kept.set (S := (· = b)) (p := ⟨b, 2, none⟩) (Kept.refl _ _) rfl _
  have W1 : Wr w1 b 0 3 := by rw [hW1]; exact WR.set 2 _
  have hb1 : Below W0.heap.size W0 w1 := by rw [hW1]; exact hbl.setCell (p := ⟨b, 2, none⟩) hlo _
  have hz1 : w.heap.size ≤ w1.heap.size := by rw [hW1]; simp [World.setCell]
  clear hW1 hh' R r_0 r_1 r_2 f_2 WR
  obtain ⟨r_0, r_1, r_2⟩ := R1.box3
  have f_1 := W1.frz 1 (by omega)
  go_region_held3 (fun w' => w'.cell? ⟨b, 2, none⟩ = some (.int .i64 h')) (first | exact r_2 | go_keep) (fail)
  rw [and255]
  obtain ⟨x1, hx1⟩ : ∃ x, x = bits BinOp.xor IntKind.i64 (h' / 8589934592) (h' / 35184372088832) % 256 := ⟨_, rfl⟩
  have hx1a : 0 ≤ x1 := by rw [hx1]; omega
  have hx1b : x1 ≤ 255 := by rw [hx1]; omega
  rw [← hx1]
  clear hx1
  have hdf : ∀ W (k : Nat), Kept (· = b) w1 W → RowAt W b 0 [.slice a0 n c0, .int .i64 (k : Int), .int .i64 h'] → Wr W b 0 3 → Below W0.heap.size W0 W → w1.heap.size ≤ W.heap.size → k ≤ n → DF W0 b w W := fun W k hK hR hW hB hz hk =>
    ⟨⟨⟨_, bs, k, h', hn.out ▸ hR, ⟨a0, c0, rfl, hn.out ▸ l0, m0, h0.out⟩, hn.out ▸ hk, hn.out ▸ hl, h64'⟩, hW, hB, hlo⟩, K1.trans hz1 hK, by omega⟩
  replace hdf := Lib.hid hdf
  by_cases hin : i < n
  · obtain ⟨b1, o1, y, s1, hlt1, rfl, P1, rfl, r1⟩ := (h0.out.below ByteR.good hb1).get hn hin
    rw [Nat.mul_one] at r1
    have q1 := r1.cells1
    have hd : decide ((i : Int) < (n : Int)) = true := decide_eq_true (by omega)
    have hy : (y.toNat : Int) ≤ 255 := by have := y.toNat_lt; omega
    clear r1
    go_upto_region 3 with fail
    go_region_held3 (fun w' => w'.cell? ⟨b, 0, none⟩ = some (.slice (some ⟨b1, o1, none⟩) n c0) ∧ w'.cell? ⟨b, 1, none⟩ = some (.int .i64 (i : Int))) (first | exact ⟨r_0, r_1⟩ | go_keep) (fail)
    go_upto_region 4 with fail
    go_region_held3 (fun w' => w'.cell? ⟨b, 0, none⟩ = some (.slice (some ⟨b1, o1, none⟩) n c0) ∧ w'.cell? ⟨b, 1, none⟩ = some (.int .i64 (i : Int)) ∧ w'.cell? ⟨b1, o1 + i, none⟩ = some (.int .u8 y.toNat)) (first | exact ⟨r_0, r_1, q1⟩ | go_keep) (fail)
    rw [and255]
    obtain ⟨x2, hx2⟩ : ∃ x, x = IntKind.i64.wrap (x1 + IntKind.i64.wrap (y.toNat : Int)) % 256 := ⟨_, rfl⟩
    have hx2a : 0 ≤ x2 := by rw [hx2]; omega
    have hx2b : x2 ≤ 255 := by rw [hx2]; omega
    rw [← hx2]
    clear hx2
    have r_1' : w1.drew.drew.drew.cell? ⟨b, 1, none⟩ = some (.int .i64 (i : Int)) := r_1
    have f_1' : w1.drew.drew.drew.frozen? ⟨b, 1, none⟩ = false := f_1
    go_wp2_with fail
    go_returns
    exact ⟨x2, rfl, hx2a, hx2b, hdf.out _ (i + 1) (Kept.set (S := (· = b)) (p := ⟨b, 1, none⟩) (Kept.refl _ _) rfl _) (by have h := R1.putAt (j := 1) (by simp) (.int .i64 ((i : Int) + 1)); rw [show ((i + 1 : Nat) : Int) = (i : Int) + 1 by omega]; exact h) (W1.set 1 _) (hb1.drew.drew.drew.setCell (p := ⟨b, 1, none⟩) hlo _) (by simp [World.setCell]) (by omega)⟩
  · have hd : decide ((i : Int) < (n : Int)) = false := decide_eq_false (by omega)
    go_upto_region 3 with fail
    go_region_held3 (fun w' => w'.cell? ⟨b, 0, none⟩ = some (.slice a0 n c0) ∧ w'.cell? ⟨b, 1, none⟩ = some (.int .i64 (i : Int))) (first | exact ⟨r_0, r_1⟩ | go_keep) (fail)
    go_wp2_with fail
    go_returns
    exact ⟨x1, rfl, hx1a, hx1b, hdf.out _ i (Kept.refl _ _) R1 W1 hb1.drew.drew (Nat.le_refl _) hi⟩

theorem DF.refl {W0 w : World} {b : Nat} (h : Cur W0 w b) : DF W0 b w w := ⟨h, Kept.refl _ _, Nat.le_refl _⟩
theorem DF.trans {W0 a c d : World} {b : Nat} (h : DF W0 b a c) (h' : DF W0 b c d) : DF W0 b a d := ⟨h'.cur, h.kept.trans h.size h'.kept, Nat.le_trans h.size h'.size⟩
theorem Cur.kept {S : Nat → Prop} {W0 w w' : World} {b : Nat} (h : Cur W0 w b) (hk : Kept S w w') (hS : ¬ S b) (hb : Below W0.heap.size W0 w') : Cur W0 w' b :=
  let ⟨s, bs, i, x, h1, h2⟩ := h.ex
  ⟨⟨s, bs, i, x, h1.kept hk hS, h2⟩, h.wr.kept hk hS, hb, h.lo⟩

set_option maxRecDepth 100000 in
set_option maxHeartbeats 8000000 in
theorem l01Below_c (W0 w : World) (b : Nat) (n : Int) (hn : n ≤ 1073741824) (C : Cur W0 w b) :
    Calls Try.prog 21 #[.pointer (some ⟨b, 0, none⟩), .int .i64 n] w fun e w' => ∃ x : Int, e = .returned (.int .i64 x) ∧ 0 ≤ x ∧ (0 < n → x < n) ∧ (n ≤ 0 → x = 0) ∧ DF W0 b w w' := by
  by_cases h0 : n ≤ 0
  · have hd : decide (n ≤ 0) = true := decide_eq_true h0
    replace C := Lib.hid C
    go_enter Try.func21, Try.ntmps21
    go_wp2_with fail
    go_returns
    exact ⟨0, rfl, by omega, by omega, fun _ => rfl, DF.refl C.out⟩
  · have hd : decide (n ≤ 0) = false := decide_eq_false h0
    have hz : (n == 0) = false := by simp; omega
    have hz' : ¬ n = 0 := by omega
    by_cases h1 : n ≤ 256
    · have hd2 : decide (n ≤ 256) = true := decide_eq_true h1
      replace C := Lib.hid C
      go_enter Try.func21, Try.ntmps21
      go_wp2_with (go_at_call 40; (with_reducible refine (l01Byte_c W0 _ b C.out).mono ?_); rintro e w1 ⟨x, rfl, hx0, hx1, D⟩)
      go_returns
      exact ⟨x % n, rfl, Int.emod_nonneg _ hz', fun h => Int.emod_lt_of_pos _ h, fun h => by omega, D⟩
    · have hd2 : decide (n ≤ 256) = false := decide_eq_false h1
      replace C := Lib.hid C
      go_enter Try.func21, Try.ntmps21
      go_upto_region 6 with (go_at_call 40; (with_reducible refine (l01Byte_c W0 _ b C.out).mono ?_); rintro e w1 ⟨x1, rfl, hx10, hx11, D1⟩)
      go_upto_region 7 with (go_at_call 40; (with_reducible refine (l01Byte_c W0 _ b D1.cur).mono ?_); rintro e w2 ⟨x2, rfl, hx20, hx21, D2⟩)
      go_upto_region 8 with (go_at_call 40; (with_reducible refine (l01Byte_c W0 _ b D2.cur).mono ?_); rintro e w3 ⟨x3, rfl, hx30, hx31, D3⟩)
      go_upto_region 9 with (go_at_call 40; (with_reducible refine (l01Byte_c W0 _ b D3.cur).mono ?_); rintro e w4 ⟨x4, rfl, hx40, hx41, D4⟩)
      have w1' : IntKind.i64.wrap (x1 * 16777216) = x1 * 16777216 := IntWalk.i64_in _ (by omega)
      have w2' : IntKind.i64.wrap (x2 * 65536) = x2 * 65536 := IntWalk.i64_in _ (by omega)
      have w3' : IntKind.i64.wrap (x3 * 256) = x3 * 256 := IntWalk.i64_in _ (by omega)
      go_wp2_with fail
      go_returns
      exact ⟨(x1 * 16777216 + x2 * 65536 + x3 * 256 + x4) % n, rfl, Int.emod_nonneg _ hz', fun h => Int.emod_lt_of_pos _ h, fun h => by omega, ((D1.trans D2).trans D3).trans D4⟩

set_option maxRecDepth 100000 in
set_option maxHeartbeats 8000000 in
theorem l01New_c (W0 w : World) (u : Value) (bs : List UInt8) (hu : Sl ByteR 1 0 W0 u bs) (hlen : bs.length ≤ 1048576) (hb : Below W0.heap.size W0 w) :
    Calls Try.prog 19 #[u] w fun e w' => ∃ b, e = .returned (.pointer (some ⟨b, 0, none⟩)) ∧ w.heap.size ≤ b ∧ Cur W0 w' b ∧ Below w.heap.size w w' := by
  have Hu := hu
  obtain ⟨a0, c0, rfl, l0, m0, h0⟩ := hu
  obtain ⟨n, hn⟩ : ∃ n, n = bs.length := ⟨_, rfl⟩
  rw [← hn] at l0 hlen ⊢
  have hz := hb.size
  replace hn := Lib.hid hn; replace h0 := Lib.hid h0; replace Hu := Lib.hid Hu; replace hb := Lib.hid hb
  go_enter Try.func19, Try.ntmps19
  go_wp2_with fail
  go_loopw [3, 4] (fun hh i wr => ∃ (x : Int) (k : Nat), k ≤ n ∧ 0 ≤ x ∧ x ≤ 2147483647 ∧ hh = .int .i64 x ∧ i = .int .i64 (k : Int) ∧ wr = w) (fun _ i _ => n - (intOf i).toNat)
  case atStart => exact ⟨792393 + (n : Int), 0, by omega, by omega, by omega, rfl, rfl, rfl⟩
  case round =>
    obtain ⟨x, k, hk, hx0, hx1, rfl, rfl, rfl⟩ := hrel
    have w1' : IntKind.i64.wrap (x * 139) = x * 139 := IntWalk.i64_in _ (by omega)
    by_cases hlt : k < n ∧ k < 4000
    · obtain ⟨h1, h2⟩ := hlt
      have hd1 : decide ((k : Int) < (n : Int)) = true := decide_eq_true (by omega)
      have hd2 : decide ((k : Int) < 4000) = true := decide_eq_true (by omega)
      obtain ⟨b1, o1, y, s1, _, rfl, P1, rfl, r1⟩ := (h0.out.below ByteR.good hb.out).get hn h1
      rw [Nat.mul_one] at r1
      have q1 := r1.cells1
      have hy : (y.toNat : Int) ≤ 255 := by have := y.toNat_lt; omega
      have w2' : IntKind.i64.wrap (y.toNat : Int) = (y.toNat : Int) := IntWalk.i64_in _ (by omega)
      clear r1
      go_wp2_with fail
      go_roundw
      case rel => exact ⟨_, k + 1, by omega, by rw [and30]; omega, by rw [and30]; omega, rfl, by go_num, by first | trivial | rfl⟩
      case measure => simp [intOf]; omega
    · have hend : ∀ W, W = wr.alloc (.cells #[.slice a0 n c0, .int .i64 0, .int .i64 x] 69) → Cur W0 W wr.heap.size ∧ Below wr.heap.size wr W := fun W hW => by
        rw [hW]
        exact ⟨⟨⟨_, bs, 0, x, RowAt.box wr #[_, _, _] _, hn.out ▸ Hu.out, by omega, hn.out ▸ hlen, by constructor <;> omega⟩, Wr.box wr #[_, _, _] _, Below.alloc hb.out hz _, hz⟩, Below.alloc (Below.refl _ _) (Nat.le_refl _) _⟩
      replace hend := Lib.hid hend
      by_cases h1 : k < n
      · have h2 : ¬ k < 4000 := fun h => hlt ⟨h1, h⟩
        have hd1 : decide ((k : Int) < (n : Int)) = true := decide_eq_true (by omega)
        have hd2 : decide ((k : Int) < 4000) = false := decide_eq_false (by omega)
        go_wp2_with fail
        go_returns
        obtain ⟨g1, g2⟩ := hend.out _ rfl
        exact ⟨_, rfl, Nat.le_refl _, g1, g2⟩
      · have hd1 : decide ((k : Int) < (n : Int)) = false := decide_eq_false (by omega)
        go_wp2_with fail
        go_returns
        obtain ⟨g1, g2⟩ := hend.out _ rfl
        exact ⟨_, rfl, Nat.le_refl _, g1, g2⟩

end Go.Proofs.Ytpblhonnknmjjaa
