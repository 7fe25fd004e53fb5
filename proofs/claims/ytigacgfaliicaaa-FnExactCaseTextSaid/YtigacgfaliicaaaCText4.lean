/- The text of a case: plain facts for the program's CaseText; the reference's in full. -/
import Derived.Test.YtigacgfaliicaaaCText3
import Derived.Test.YtigacgfaliicaaaJoin
namespace Go.Proofs.Ytigacgfaliicaaa
open Go.RowKit
set_option linter.unusedVariables false
set_option linter.unusedSimpArgs false
attribute [local go_sem] Ext.cell

theorem lens_le (B : Nat) : ∀ (xs : List (List UInt8)), (∀ y ∈ xs, y.length ≤ B) → Lib.lens xs ≤ B * xs.length
  | [], _ => by simp [Lib.lens]
  | x :: xs, h => by
    have h1 := h x (by simp)
    have h2 := lens_le B xs fun y hy => h y (by simp [hy])
    have e : Lib.lens (x :: xs) = x.length + Lib.lens xs := by simp [Lib.lens]
    rw [e, List.length_cons, Nat.mul_succ]
    omega
theorem join_le (B : Nat) (c : UInt8) : ∀ (xs : List (List UInt8)), (∀ y ∈ xs, y.length ≤ B) → (Lib.join xs [c]).length ≤ (B + 1) * xs.length
  | [], _ => by rw [Lib.join_nil]; simp
  | x :: xs, h => by
    have h1 := lens_le B (x :: xs) h
    rw [Lib.join_length]
    simp only [List.length_cons, List.length_nil] at *
    have e : (B + 1) * (xs.length + 1) = B * (xs.length + 1) + (xs.length + 1) := Nat.succ_mul _ _
    omega

def sA (x : GCase) (k : Nat) : List ByteArray := [(⟨#[99, 97, 115, 101, 32]⟩ : ByteArray) ++ x.name] ++ (x.lines.take k).map fun s => (⟨#[62]⟩ : ByteArray) ++ s
def sN (x : GCase) (k : Nat) : List ByteArray := (x.inputs.take k).map numText
def sB (x : GCase) : List ByteArray := sA x x.lines.length ++ (if x.inputs.length = 0 then [] else [(⟨#[60]⟩ : ByteArray) ++ tB (Lib.join (numsOf x.inputs) [32])])
def sC (x : GCase) (k : Nat) : List ByteArray := sB x ++ (x.want.take k).map fun s => (⟨#[61]⟩ : ByteArray) ++ s
theorem bL_append (a b : ByteArray) : bL (a ++ b) = bL a ++ bL b := by simp [bL]
theorem sA_bL (x : GCase) (k : Nat) : (sA x k).map bL = caseA x k := by
  unfold sA caseA
  simp only [List.map_append, List.map_cons, List.map_nil, List.map_map, bL_append]
  rfl
theorem sN_bL (x : GCase) : (sN x x.inputs.length).map bL = numsOf x.inputs := by
  unfold sN numsOf
  rw [List.take_length, List.map_map]
  rfl
theorem sC_bL (x : GCase) : (sC x x.want.length ++ [(⟨#[101, 110, 100]⟩ : ByteArray)]).map bL = caseLines x := by
  rw [case_lines]
  unfold sC sB caseC caseB
  simp only [List.map_append, sA_bL, List.map_map]
  split
  · simp [bL]
  · simp [bL, tB, nums, numsOf]
theorem sA_step {x : GCase} {k : Nat} {s : ByteArray} (h : x.lines[k]? = some s) : sA x (k + 1) = sA x k ++ [(⟨#[62]⟩ : ByteArray) ++ s] := by unfold sA; rw [take_snoc' h]; simp
theorem sN_step {x : GCase} {k : Nat} {n : Int} (h : x.inputs[k]? = some n) : sN x (k + 1) = sN x k ++ [numText n] := by unfold sN; rw [take_snoc' h]; simp
theorem sC_step {x : GCase} {k : Nat} {s : ByteArray} (h : x.want[k]? = some s) : sC x (k + 1) = sC x k ++ [(⟨#[61]⟩ : ByteArray) ++ s] := by unfold sC; rw [take_snoc' h]; simp
theorem sA_len (x : GCase) (k : Nat) (h : k ≤ x.lines.length) : (sA x k).length = k + 1 := by unfold sA; simp; omega
theorem sN_len (x : GCase) (k : Nat) (h : k ≤ x.inputs.length) : (sN x k).length = k := by unfold sN; simp; omega
theorem sB_len (x : GCase) : (sB x).length ≤ x.lines.length + 2 := by
  unfold sB
  rw [List.length_append, sA_len x _ (Nat.le_refl _)]
  split <;> simp
theorem sC_len (x : GCase) (k : Nat) (h : k ≤ x.want.length) : (sC x k).length = (sB x).length + k := by unfold sC; simp; omega

/-- The cells of an owned slice of texts. -/
theorem own_texts {w : World} {base g cap : Nat} {xs : List ByteArray} (h : w.ownsRow base 9 1 (.slice (some ⟨g, 0, none⟩) xs.length cap) xs.length (xs.map Value.string)) (h0 : 0 < xs.length) :
    (∀ (j : Nat) x, xs[j]? = some x → w.cell? ⟨g, 0 + j, none⟩ = some (.string x)) ∧ g < w.heap.size ∧ xs.length ≤ cap := by
  obtain ⟨g', cap', hv, h1, h2, h3, h4, h5, h6⟩ := own_cells h h0
  obtain ⟨rfl, rfl⟩ : g = g' ∧ cap = cap' := by injection hv with e1 e2 e3; injection e1 with e1; injection e1 with e1; exact ⟨e1, e3⟩
  exact ⟨fun j x hx => h5 j _ (by rw [List.getElem?_map, hx]; rfl), h2, h3⟩

theorem line_len {x : GCase} (hok : caseOk x = true) : (Lib.join (caseLines x) [10]).length ≤ 200000 := by
  obtain ⟨pn, pL, pW, pI, plines, pwant⟩ := caseOk_parts hok
  have hj : (Lib.join (nums x) [32]).length ≤ 1050 := by
    have := join_le 20 32 (nums x) (fun y hy => by
      obtain ⟨n, _, rfl⟩ := List.mem_map.1 hy
      exact numText_len20 n)
    have e : (nums x).length = x.inputs.length := by unfold nums; simp
    rw [e] at this
    omega
  have h := join_le 1060 10 (caseLines x) (fun y hy => by
    unfold caseLines at hy
    simp only [List.mem_append, List.mem_singleton, List.mem_map] at hy
    rcases hy with (((rfl | ⟨s, hs, rfl⟩) | hy) | ⟨s, hs, rfl⟩) | rfl
    · have : (bL x.name).length = x.name.size := rfl
      simp; omega
    · have : (bL s).length = s.size := rfl
      have := plines s hs
      simp; omega
    · split at hy
      · cases hy
      · obtain rfl := List.mem_singleton.1 hy
        simp; omega
    · have : (bL s).length = s.size := rfl
      have := pwant s hs
      simp; omega
    · simp)
  have hl : (caseLines x).length ≤ 123 := by
    unfold caseLines
    simp only [List.length_append, List.length_map, List.length_cons, List.length_nil]
    split <;> simp <;> omega
  have : (1060 + 1) * (caseLines x).length ≤ 1061 * 123 := Nat.mul_le_mul_left _ hl
  omega

end Go.Proofs.Ytigacgfaliicaaa
