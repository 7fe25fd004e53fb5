/- NameOk of both. -/
import Derived.Test.YtigacgfaliicaaaName
namespace Go.Proofs.Ytigacgfaliicaaa
open Go.RowKit
set_option linter.unusedVariables false
set_option linter.unusedSimpArgs false
attribute [local go_sem] Ext.cell

def nameOk (s : ByteArray) : Bool := (wordOk s && lowB (firstB s)) && !isKw s
theorem word01_one (s : ByteArray) : word01 s 1 = (wordOk s && lowB (firstB s)) := by
  unfold word01 wordOk
  rw [clsB_one]
  cases decide (1 ≤ (s.size : Int) ∧ (s.size : Int) ≤ 12) <;> cases lowB (firstB s) <;> cases allW s.data.toList <;> rfl

set_option maxRecDepth 100000 in
set_option maxHeartbeats 4000000 in
theorem impl_NameOk_c (s : ByteArray) (hs : StrOk s) (w : World) : Calls Try.prog 23 #[.string s] w fun e w' => e = .returned (.bool (nameOk s)) ∧ Below w.heap.size w w' := by
  have c1 := fun W => wordOk_c s hs W
  unfold StrOk at hs
  have hk := fun u W (hW : Sl StrR 1 0 W u kwB) => containsS_c kwB s 0 u W hW
  unfold nameOk
  cases hw : wordOk s with
  | false =>
    rw [hw] at c1
    clear hw hk
    go_enter Try.func23, Try.ntmps23
    go_wp2_with (go_at_call 38; ((with_reducible refine (c1 _).mono ?_); rintro e w1 ⟨rfl, rfl⟩))
    go_returns
    exact ⟨rfl, Below.refl _ _⟩
  | true =>
    rw [hw] at c1
    have h0 : 0 < s.size := by unfold wordOk at hw; simp at hw; omega
    have h0' : (0 : Int) < s.size := by omega
    have hf : firstB s = (s[0]'h0).toNat := by unfold firstB; rw [dif_pos h0]
    rw [hf]
    clear hw hf
    have c2 := fun W => isLower_c ((s[0]'h0).toNat : Int) W
    generalize lowB ((s[0]'h0).toNat : Int) = lb at *
    have e : (kwB.any fun y => s.toList == y.toList) = isKw s := rfl
    rw [e] at hk
    clear e
    generalize isKw s = kw at *
    replace hk := Lib.hid hk
    cases lb with
    | false =>
      go_enter Try.func23, Try.ntmps23
      go_wp2_with (first | (go_at_call 38; ((with_reducible refine (c1 _).mono ?_); rintro e w1 ⟨rfl, rfl⟩)) | (go_at_call 39; ((with_reducible refine (c2 _).mono ?_); rintro e w1 ⟨rfl, rfl⟩)))
      go_returns
      exact ⟨rfl, Below.refl _ _⟩
    | true =>
      go_enter Try.func23, Try.ntmps23
      go_wp2_with (first | (go_at_call 38; ((with_reducible refine (c1 _).mono ?_); rintro e w1 ⟨rfl, rfl⟩)) | (go_at_call 39; ((with_reducible refine (c2 _).mono ?_); rintro e w1 ⟨rfl, rfl⟩)) | (go_at_call 41; ((with_reducible refine (keywords_c _).mono ?_); rintro e w1 ⟨g, rfl, hS, hb⟩)) | (go_at_call 40; ((with_reducible refine (hk.out _ _ hS).mono ?_); rintro e w2 ⟨rfl, hb2⟩)))
      go_returns
      exact ⟨rfl, hb.trans (hb2.mono hb.size)⟩

set_option maxRecDepth 100000 in
set_option maxHeartbeats 4000000 in
theorem l01Kept_c (s : ByteArray) (w : World) : Calls Try.prog 36 #[.string s] w fun e w' => e = .returned (.bool (isKw s)) ∧ Below w.heap.size w w' := by
  have H := row_strs (kw_row w 9) kw_ok 17 (by decide) (by omega)
  obtain ⟨W0, hW0⟩ : ∃ W0, W0 = w.alloc (.cells (kwB.map Value.string).toArray 9) := ⟨_, rfl⟩
  have hw0 : Below w.heap.size w W0 := by rw [hW0]; go_grown
  rw [← hW0] at H
  obtain ⟨a, c, hv, -, -, h0⟩ := H
  injection hv with e1 e2 e3
  subst e1
  replace h0 := Lib.hid h0
  clear e2 e3
  go_enter Try.func36, Try.ntmps36
  go_upto_region 2 with fail
  rw [show w.alloc (.cells #[.string ⟨#[108, 101, 116]⟩, .string ⟨#[114, 101, 99]⟩, .string ⟨#[105, 110]⟩, .string ⟨#[102, 117, 110]⟩, .string ⟨#[105, 102]⟩, .string ⟨#[116, 104, 101, 110]⟩, .string ⟨#[101, 108, 115, 101]⟩, .string ⟨#[109, 97, 116, 99, 104]⟩, .string ⟨#[119, 105, 116, 104]⟩, .string ⟨#[101, 110, 100]⟩, .string ⟨#[116, 121, 112, 101]⟩, .string ⟨#[111, 102]⟩, .string ⟨#[114, 97, 105, 115, 101]⟩, .string ⟨#[116, 114, 121]⟩, .string ⟨#[114, 101, 102]⟩, .string ⟨#[116, 114, 117, 101]⟩, .string ⟨#[102, 97, 108, 115, 101]⟩] 9) = W0 from hW0.symm]
  clear hW0
  go_loopw [7] (fun i wr => ∃ k : Nat, k ≤ 17 ∧ i = .int .i64 k ∧ Below w.heap.size w wr ∧ Below W0.heap.size W0 wr ∧ Hid (∀ y ∈ kwB.take k, (s.toList == y.toList) = false)) (fun i _ => 17 - (intOf i).toNat)
  case atStart => exact ⟨0, by omega, rfl, hw0, Below.refl _ _, fun y hy => by simp at hy⟩
  case round =>
    obtain ⟨k, hk, rfl, hw, hw1, hF⟩ := hrel
    have hlen : kwB.length = 17 := rfl
    by_cases hlt : k < 17
    · obtain ⟨b1, o1, x, r, _, hab, P1, ⟨rfl, -⟩, r1⟩ := (h0.out.below StrR.good hw1).get (n := 17) (Lib.hid rfl) hlt
      obtain ⟨rfl, rfl⟩ : w.heap.size = b1 ∧ 0 = o1 := by injection hab with h; injection h with h1 h2; exact ⟨h1, h2⟩
      have e0 : wr.cell? ⟨w.heap.size, k, none⟩ = some (.string x) := by simpa using r1 0 _ rfl
      clear r1 hab hlen
      cases hq : (s.toList == x.toList) with
      | true =>
        have hfin : isKw s = true := List.any_eq_true.2 ⟨x, List.mem_of_getElem? P1.out, by simpa using hq⟩
        replace hfin := Lib.hid hfin
        go_wp2_with fail
        go_returns
        exact ⟨by rw [hfin.out]; rfl, hw⟩
      | false =>
        have hq' := Lib.hid hq
        go_wp2_with fail
        go_roundw
        case rel => exact ⟨k + 1, by omega, by go_num, hw, hw1, by
          show ∀ y ∈ kwB.take (k + 1), (s.toList == y.toList) = false
          rw [take_snoc' P1.out]
          intro y hy
          rcases List.mem_append.1 hy with h | h
          · exact hF.out y h
          · simp at h; subst h; exact hq'.out⟩
        case measure => simp [intOf]; omega
    · obtain rfl : k = 17 := by omega
      have hfin : isKw s = false := List.any_eq_false.2 fun y hy => by rw [hF.out y (by rw [List.take_of_length_le (by rw [hlen]; omega)]; exact hy)]; simp
      replace hfin := Lib.hid hfin
      clear hlen
      go_wp2_with fail
      go_returns
      exact ⟨by rw [hfin.out]; rfl, hw⟩

set_option maxRecDepth 100000 in
set_option maxHeartbeats 4000000 in
theorem spec_NameOk_c (s : ByteArray) (hs : StrOk s) (w : World) : Calls Try.prog 21 #[.string s] w fun e w' => e = .returned (.bool (nameOk s)) ∧ Below w.heap.size w w' := by
  have c1 := fun W => l01Word_c s 1 hs W
  have c2 := fun W => l01Kept_c s W
  rw [word01_one] at c1
  unfold nameOk
  generalize (wordOk s && lowB (firstB s)) = b1 at *
  generalize isKw s = b2 at *
  cases b1 with
  | false =>
    go_enter Try.func21, Try.ntmps21
    go_wp2_with (go_at_call 35; ((with_reducible refine (c1 _).mono ?_); rintro e w1 ⟨rfl, rfl⟩))
    go_returns
    exact ⟨rfl, Below.refl _ _⟩
  | true =>
    go_enter Try.func21, Try.ntmps21
    go_wp2_with (first | (go_at_call 35; ((with_reducible refine (c1 _).mono ?_); rintro e w1 ⟨rfl, rfl⟩)) | (go_at_call 36; ((with_reducible refine (c2 _).mono ?_); rintro e w1 ⟨rfl, hb⟩)))
    go_returns
    exact ⟨rfl, hb⟩

end Go.Proofs.Ytigacgfaliicaaa
