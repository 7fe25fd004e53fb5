/- The text of a case: the reference's. -/
import Derived.Test.YtigacgfaliicaaaCText
namespace Go.Proofs.Ytigacgfaliicaaa
open Go.RowKit
set_option linter.unusedVariables false
set_option linter.unusedSimpArgs false
attribute [local go_sem] Ext.cell

theorem numText_len20 (n : Int) : (numText n).size ≤ 20 := by
  unfold numText
  split
  · rename_i h
    have := numS_len n.natAbs (by omega)
    split
    · rw [ByteArray.size_append]
      show 1 + (numS n.natAbs).size ≤ 20
      omega
    · omega
  · exact Nat.zero_le _
/-- Bytes as a text. -/
def tB (l : List UInt8) : ByteArray := ⟨l.toArray⟩
theorem tB_append (a : List UInt8) (s : ByteArray) : tB a ++ s = tB (a ++ bL s) := by
  apply ByteArray.ext; apply Array.ext'; simp [tB, bL]
theorem tB_bL (s : ByteArray) : tB (bL s) = s := by
  apply ByteArray.ext; apply Array.ext'; simp [tB, bL]
theorem tB_size (l : List UInt8) : (tB l).size = l.length := by show l.toArray.size = _; simp
def numsOf (xs : List Int) : List (List UInt8) := xs.map fun n => bL (numText n)
theorem join_step (xs : List Int) (k : Nat) (n : Int) (h : xs[k]? = some n) (hk : 0 < k) : tB (Lib.join (numsOf (xs.take (k + 1))) [32]) = tB (Lib.join (numsOf (xs.take k)) [32]) ++ ⟨#[32]⟩ ++ numText n := by
  have e : numsOf (xs.take (k + 1)) = numsOf (xs.take k) ++ [bL (numText n)] := by unfold numsOf; rw [take_snoc' h]; simp
  cases hq : numsOf (xs.take k) with
  | nil =>
    have : (numsOf (xs.take k)).length = 0 := by rw [hq]; rfl
    have hl := (List.getElem?_eq_some_iff.1 h).1
    unfold numsOf at this
    rw [List.length_map, List.length_take] at this
    omega
  | cons x r =>
    rw [e, hq, join_snoc, tB_append, tB_append]
    rfl
theorem join_first (xs : List Int) (n : Int) (h : xs[0]? = some n) : tB (Lib.join (numsOf (xs.take 1)) [32]) = numText n := by
  have e : xs.take (0 + 1) = xs.take 0 ++ [n] := take_snoc' h
  rw [show xs.take 1 = [n] by simpa using e]
  show tB (Lib.join [bL (numText n)] [32]) = _
  rw [Lib.join_one, tB_bL]

set_option maxRecDepth 100000 in
set_option maxHeartbeats 4000000 in
theorem l23Nums_c (xs : List Int) (hx : xs.length ≤ 1000) (lo : Nat) (u : Value) (w : World) (hu : Sl IntR 1 lo w u xs) :
    Calls Try.prog 12 #[u] w fun e w' => e = .returned (.string (tB (Lib.join (numsOf xs) [32]))) ∧ (tB (Lib.join (numsOf xs) [32])).size ≤ 21 * xs.length ∧ Below w.heap.size w w' := by
  obtain ⟨ua, uc, rfl, ul, um, h0⟩ := hu
  replace h0 := Lib.hid h0
  obtain ⟨m, hm⟩ : ∃ m, m = xs.length := ⟨_, rfl⟩
  rw [← hm] at ul hx ⊢
  replace hm := Lib.hid hm
  go_enter Try.func12, Try.ntmps12
  go_wp2_with fail
  go_loopw [3, 8] (fun v i wr => ∃ (k : Nat) (o : ByteArray), k ≤ m ∧ i = .int .i64 k ∧ v = .string o ∧ Hid (o = tB (Lib.join (numsOf (xs.take k)) [32])) ∧ o.size ≤ 21 * k ∧ Below w.heap.size w wr) (fun _ i _ => m - (intOf i).toNat)
  case atStart => exact ⟨0, _, by omega, rfl, rfl, rfl, by show 0 ≤ _; omega, Below.refl _ _⟩
  case round =>
    obtain ⟨k, o, hk, rfl, rfl, ho, hs, hw⟩ := hrel
    by_cases hlt : k < m
    · obtain ⟨b1, o1, n, r, _, rfl, P1, ⟨rfl, hn64⟩, r1⟩ := (h0.out.below IntR.good hw).get hm hlt
      have e0 : wr.cell? ⟨b1, o1 + k, none⟩ = some (.int .i64 n) := by simpa using r1 0 _ rfl
      have c5 := fun W => spec_NumText_c n hn64 W
      have ht := numText_len20 n
      clear r1
      by_cases hk0 : 0 < k
      · have hst := join_step xs k n P1.out hk0
        rw [← ho.out] at hst
        generalize numText n = t at *
        have l1 : (9223372036854775807 < o.size + 1) = False := by simp; omega
        have l2 : (9223372036854775807 < o.size + 1 + t.size) = False := by simp; omega
        have d1 : decide ((0 : Int) < (k : Int)) = true := decide_eq_true (by omega)
        have hsz : (o ++ ⟨#[32]⟩ ++ t).size ≤ 21 * (k + 1) := by rw [ByteArray.size_append, ByteArray.size_append]; show o.size + 1 + t.size ≤ _; omega
        replace hst := Lib.hid hst; replace hsz := Lib.hid hsz
        go_wp2_with (go_at_call 20; ((with_reducible refine (c5 _).mono ?_); rintro e w1 ⟨rfl, hb⟩))
        go_roundw
        case rel => exact ⟨k + 1, _, by omega, by go_num, rfl, hst.out.symm, hsz.out, hw.trans (hb.mono hw.size)⟩
        case measure => simp [intOf]; omega
      · obtain rfl : k = 0 := by omega
        have hst := join_first xs n P1.out
        have hoe : o = tB [] := ho.out
        have he : o ++ numText n = numText n := by rw [hoe, tB_append, List.nil_append, tB_bL]
        have ho0 : o.size = 0 := by rw [hoe]; rfl
        rw [← he] at hst
        have hsz : (o ++ numText n).size ≤ 21 * 1 := by rw [he]; omega
        have l1 : (9223372036854775807 < o.size + (numText n).size) = False := by simp; omega
        have e0' : wr.cell? ⟨b1, o1, none⟩ = some (.int .i64 n) := by simpa using e0
        have hm0 : (0 : Int) < (m : Int) := by omega
        generalize numText n = t at *
        replace hst := Lib.hid hst; replace hsz := Lib.hid hsz
        clear ho hs hk0 hoe he ho0 e0
        rw [show ((0 : Nat) : Int) = (0 : Int) from rfl]
        go_wp2_with (go_at_call 20; ((with_reducible refine (c5 _).mono ?_); rintro e w1 ⟨rfl, hb⟩))
        go_roundw
        case rel => exact ⟨1, _, by omega, by first | rfl | go_num, rfl, hst.out.symm, hsz.out, hw.trans (hb.mono hw.size)⟩
        case measure => simp [intOf]; omega
    · obtain rfl : k = m := by omega
      have hfin : o = tB (Lib.join (numsOf xs) [32]) := by rw [ho.out, List.take_of_length_le (by have := hm.out; omega)]
      replace hfin := Lib.hid hfin
      clear ho
      go_wp2_with fail
      go_returns
      exact ⟨by rw [← hfin.out]; rfl, by rw [← hfin.out]; exact hs, hw⟩

end Go.Proofs.Ytigacgfaliicaaa
