/- Names: keywords, slices.Contains at []string, NameOk of both. -/
import Derived.Test.YtigacgfaliicaaaWord
import Derived.Test.YtigacgfaliicaaaFind
namespace Go.Proofs.Ytigacgfaliicaaa
open Go.RowKit
set_option linter.unusedVariables false
set_option linter.unusedSimpArgs false
attribute [local go_sem] Ext.cell

set_option maxRecDepth 100000 in
set_option maxHeartbeats 4000000 in
theorem indexS_c (xs : List ByteArray) (v : ByteArray) (lo : Nat) (u : Value) (w : World) (hu : Sl StrR 1 lo w u xs) :
    Calls Try.prog 50 #[u, .string v] w (IdxPost (fun y => v.toList == y.toList) xs w) := by
  obtain ⟨ua, uc, rfl, ul, um, h0⟩ := hu
  replace h0 := Lib.hid h0
  obtain ⟨m, hm⟩ : ∃ m, m = xs.length := ⟨_, rfl⟩
  rw [← hm] at ul ⊢
  replace hm := Lib.hid hm
  go_enter Try.func50, Try.ntmps50
  go_wp2_with fail
  go_loopw [8] (fun i wr => ∃ k : Nat, k ≤ m ∧ i = .int .i64 k ∧ Below w.heap.size w wr ∧ Hid (∀ y ∈ xs.take k, (v.toList == y.toList) = false)) (fun i _ => m - (intOf i).toNat)
  case atStart => exact ⟨0, by omega, rfl, Below.refl _ _, fun y hy => by simp at hy⟩
  case round =>
    obtain ⟨k, hk, rfl, hw, hF⟩ := hrel
    by_cases hlt : k < m
    · obtain ⟨b1, o1, x, r, _, rfl, P1, ⟨rfl, -⟩, r1⟩ := (h0.out.below StrR.good hw).get hm hlt
      have e0 : wr.cell? ⟨b1, o1 + k, none⟩ = some (.string x) := by simpa using r1 0 _ rfl
      clear r1
      cases hq : (v.toList == x.toList) with
      | true =>
        go_wp2_with fail
        go_returns
        exact ⟨k, rfl, by
          have : xs.any (fun y => v.toList == y.toList) = true := List.any_eq_true.2 ⟨x, List.mem_of_getElem? P1.out, by simpa using hq⟩
          rw [this]; simp, hw⟩
      | false =>
        have hq' := Lib.hid hq
        go_wp2_with fail
        go_roundw
        case rel => exact ⟨k + 1, by omega, by go_num, hw, by
          show ∀ y ∈ xs.take (k + 1), (v.toList == y.toList) = false
          rw [take_snoc' P1.out]
          intro y hy
          rcases List.mem_append.1 hy with h | h
          · exact hF.out y h
          · simp at h; subst h; exact hq'.out⟩
        case measure => simp [intOf]; omega
    · obtain rfl : k = m := by omega
      go_wp2_with fail
      go_returns
      exact ⟨-1, rfl, by
        have hF := hF.out
        rw [take_full hm] at hF
        have : xs.any (fun y => v.toList == y.toList) = false := List.any_eq_false.2 fun y hy => by rw [hF y hy]; simp
        rw [this]; simp, hw⟩

theorem containsS_c (xs : List ByteArray) (v : ByteArray) (lo : Nat) (u : Value) (w : World) (hu : Sl StrR 1 lo w u xs) :
    Calls Try.prog 40 #[u, .string v] w fun e w' => e = .returned (.bool (xs.any fun y => v.toList == y.toList)) ∧ Below w.heap.size w w' := by
  have hc := indexS_c xs v lo u w hu
  replace hc : Calls Try.prog 50 #[u, .string v] w fun e w' => ∃ n : Int, e = .returned (.int .i64 n) ∧ decide (0 ≤ n) = (xs.any fun y => v.toList == y.toList) ∧ Below w.heap.size w w' := hc
  generalize (xs.any fun y => v.toList == y.toList) = q at *
  obtain ⟨ua, uc, rfl⟩ := hu.form
  clear hu
  go_enter Try.func40, Try.ntmps40
  go_wp2_with (go_at_call 50; refine hc.mono ?_; rintro e w1 ⟨n, rfl, hn, hb⟩)
  go_returns
  exact ⟨rfl, hb⟩

/-- The words that are kept. -/
def kwB : List ByteArray := [⟨#[108, 101, 116]⟩, ⟨#[114, 101, 99]⟩, ⟨#[105, 110]⟩, ⟨#[102, 117, 110]⟩, ⟨#[105, 102]⟩, ⟨#[116, 104, 101, 110]⟩, ⟨#[101, 108, 115, 101]⟩, ⟨#[109, 97, 116, 99, 104]⟩, ⟨#[119, 105, 116, 104]⟩, ⟨#[101, 110, 100]⟩, ⟨#[116, 121, 112, 101]⟩, ⟨#[111, 102]⟩, ⟨#[114, 97, 105, 115, 101]⟩, ⟨#[116, 114, 121]⟩, ⟨#[114, 101, 102]⟩, ⟨#[116, 114, 117, 101]⟩, ⟨#[102, 97, 108, 115, 101]⟩]
def isKw (s : ByteArray) : Bool := kwB.any fun y => s.toList == y.toList
theorem kw_row (w : World) (T : TypeId) : RowAt (w.alloc (.cells (kwB.map Value.string).toArray T)) w.heap.size 0 (kwB.map Value.string) := by
  have := RowAt.box w (kwB.map Value.string).toArray T
  simpa using this
theorem kw_ok : ∀ y ∈ kwB, StrOk y := by
  intro y hy
  have : y.size ≤ 5 := by
    revert y
    decide
  unfold StrOk
  omega
theorem row_strs {w : World} {g : Nat} {xs : List ByteArray} (h : RowAt w g 0 (xs.map Value.string)) (hok : ∀ y ∈ xs, StrOk y) (cap : Nat) (hc : xs.length ≤ cap) (hm : cap ≤ 9223372036854775807) : Sl StrR 1 g w (.slice (some ⟨g, 0, none⟩) xs.length cap) xs :=
  ⟨_, cap, rfl, hc, hm, fun _ => ⟨g, 0, Nat.le_refl _, rfl, fun i x hx => ⟨[.string x], ⟨rfl, hok x (List.mem_of_getElem? hx)⟩, fun j c hj => by
    cases j with
    | zero =>
      simp at hj; subst hj
      have := h i (.string x) (by rw [List.getElem?_map, hx]; rfl)
      simpa using this
    | succ j => simp at hj⟩⟩⟩

set_option maxRecDepth 100000 in
set_option maxHeartbeats 4000000 in
theorem keywords_c (w : World) : Calls Try.prog 41 #[] w fun e w' => ∃ g, e = .returned (.slice (some ⟨g, 0, none⟩) 17 17) ∧ Sl StrR 1 0 w' (.slice (some ⟨g, 0, none⟩) 17 17) kwB ∧ Below w.heap.size w w' := by
  go_enter Try.func41, Try.ntmps41
  go_wp2_with fail
  go_returns
  refine ⟨w.heap.size, rfl, ?_, by go_grown⟩
  exact (row_strs (kw_row w 9) kw_ok 17 (by decide) (by omega)).mono StrR.good (Nat.zero_le _)

end Go.Proofs.Ytigacgfaliicaaa
