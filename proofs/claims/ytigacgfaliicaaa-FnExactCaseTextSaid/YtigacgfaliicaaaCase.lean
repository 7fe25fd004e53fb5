/- Cases: the reference's l23Lines; the closure that asks a number's text. -/
import Derived.Test.YtigacgfaliicaaaLines
import Derived.Test.YtigacgfaliicaaaNum3
import Derived.Test.YtigacgfaliicaaaName2
import Derived.Test.YtigacgfaliicaaaFindInt
namespace Go.Proofs.Ytigacgfaliicaaa
open Go.RowKit
set_option linter.unusedVariables false
set_option linter.unusedSimpArgs false
attribute [local go_sem] Ext.cell

def linesOk (l : List ByteArray) : Bool := l.all lineOk && decide ((l.length : Int) ≤ 60)
theorem linesOk_bad {l : List ByteArray} {k : Nat} {x : ByteArray} (h : l[k]? = some x) (hb : lineOk x = false) : linesOk l = false := by
  have : l.all lineOk = false := List.all_eq_false.2 ⟨x, List.mem_of_getElem? h, by rw [hb]; decide⟩
  unfold linesOk; rw [this]; rfl
theorem linesOk_all {l : List ByteArray} (h : ∀ y ∈ l.take l.length, lineOk y = true) : linesOk l = decide ((l.length : Int) ≤ 60) := by
  have : l.all lineOk = true := List.all_eq_true.2 fun y hy => h y (by rw [List.take_length]; exact hy)
  unfold linesOk; rw [this]; rfl
theorem take_all {α : Type} {p : α → Bool} {l : List α} {k : Nat} {x : α} {b : Bool} (h : ∀ y ∈ l.take k, p y = b) (hx : l[k]? = some x) (hq : p x = b) : ∀ y ∈ l.take (k + 1), p y = b := by
  rw [take_snoc' hx]
  intro y hy
  rcases List.mem_append.1 hy with h' | h'
  · exact h y h'
  · simp at h'; subst h'; exact hq

set_option maxRecDepth 100000 in
set_option maxHeartbeats 2000000 in
theorem l23Lines_c (l : List ByteArray) (lo : Nat) (u : Value) (w : World) (hu : Sl StrR 1 lo w u l) : Calls Try.prog 22 #[u] w fun e w' => e = .returned (.bool (linesOk l)) ∧ Below w.heap.size w w' := by
  obtain ⟨ua, uc, rfl, ul, um, h0⟩ := hu
  replace h0 := Lib.hid h0
  obtain ⟨m, hm⟩ : ∃ m, m = l.length := ⟨_, rfl⟩
  rw [← hm] at ul ⊢
  replace hm := Lib.hid hm
  go_enter Try.func22, Try.ntmps22
  go_wp2_with fail
  go_loopw [7] (fun i wr => ∃ k : Nat, k ≤ m ∧ i = .int .i64 k ∧ Below w.heap.size w wr ∧ Hid (∀ y ∈ l.take k, lineOk y = true)) (fun i _ => m - (intOf i).toNat)
  case atStart => exact ⟨0, by omega, rfl, Below.refl _ _, fun y hy => by simp at hy⟩
  case round =>
    obtain ⟨k, hk, rfl, hw, hF⟩ := hrel
    by_cases hlt : k < m
    · obtain ⟨b1, o1, x, r, _, rfl, P1, ⟨rfl, hx⟩, r1⟩ := (h0.out.below StrR.good hw).get hm hlt
      have e0 : wr.cell? ⟨b1, o1 + k, none⟩ = some (.string x) := by simpa using r1 0 _ rfl
      have c1 := fun W => l23Line_c x hx W
      clear r1
      generalize hq : lineOk x = q at *
      replace hq := Lib.hid hq
      cases q with
      | true =>
        go_wp2_with (go_at_call 37; ((with_reducible refine (c1 _).mono ?_); rintro e w1 ⟨rfl, rfl⟩))
        go_roundw
        case rel => exact ⟨k + 1, by omega, by go_num, hw, take_all hF.out P1.out hq.out⟩
        case measure => simp [intOf]; omega
      | false =>
        have hbad := Lib.hid (linesOk_bad P1.out hq.out)
        go_wp2_with (go_at_call 37; ((with_reducible refine (c1 _).mono ?_); rintro e w1 ⟨rfl, rfl⟩))
        go_returns
        exact ⟨by rw [hbad.out]; rfl, hw⟩
    · obtain rfl : k = m := by omega
      have hfin := linesOk_all (l := l) (by rw [← hm.out]; exact hF.out)
      rw [← hm.out] at hfin
      replace hfin := Lib.hid hfin
      go_wp2_with fail
      go_returns
      exact ⟨by rw [hfin.out]; first | rfl | (simp; done), hw⟩

theorem numText_empty (n : Int) : (numText n).toList.isEmpty = !decide (-4611686018427387904 ≤ n ∧ n ≤ 4611686018427387903) := by
  unfold numText
  by_cases h : -4611686018427387904 ≤ n ∧ n ≤ 4611686018427387903
  · rw [if_pos h, decide_eq_true h]
    have h1 : ∀ k, (numS k).data.toList ≠ [] := by
      intro k
      show (revd k).reverse.toArray.toList ≠ []
      rw [revd]
      split <;> simp
    split
    · rw [ByteArray.toList_eq]
      simp
    · rw [ByteArray.toList_eq]
      cases hq : (numS n.natAbs).data.toList with
      | nil => exact absurd hq (h1 _)
      | cons a l => rfl
  · rw [if_neg h, decide_eq_false h]
    simp [toList_empty]

/-- The numbers whose text is empty are those of more than 63 bits. -/
def badNum (n : Int) : Bool := !decide (-4611686018427387904 ≤ n ∧ n ≤ 4611686018427387903)
theorem badNum_c (n : Int) (hi : I64 n) (w : World) : Calls Try.prog 28 #[.int .i64 n] w fun e w' => e = .returned (.bool (badNum n)) ∧ Below w.heap.size w w' := by
  have c1 := fun W => impl_NumText_c n hi W
  have h := numText_empty n
  rw [show (!decide (-4611686018427387904 ≤ n ∧ n ≤ 4611686018427387903)) = badNum n from rfl] at h
  generalize badNum n = q at *
  generalize numText n = t at *
  go_enter Try.func28, Try.ntmps28
  go_wp2_with (go_at_call 16; ((with_reducible refine (c1 _).mono ?_); rintro e w1 ⟨rfl, hb⟩))
  go_returns
  exact ⟨rfl, hb⟩

end Go.Proofs.Ytigacgfaliicaaa
