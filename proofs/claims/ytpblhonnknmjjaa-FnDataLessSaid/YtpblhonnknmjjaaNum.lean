/- The text of a number: digits, the reversal of bytes, NumText of both. -/
import Derived.Test.YtpblhonnknmjjaaOwn
import Derived.Laws.IdiomStrings
import Derived.Test.YtpblhonnknmjjaaWord
import Derived.RegionTactic
import Derived.Deep.LoopGhost
namespace Go.Proofs.Ytpblhonnknmjjaa
open Go.RowKit
set_option linter.unusedVariables false
set_option linter.unusedSimpArgs false
attribute [local go_sem] Ext.cell

def bval (b : UInt8) : Value := .int .u8 b.toNat
/-- Block g begins with these bytes, which may be written. -/
def BytesAt (w : World) (g n : Nat) (f : Nat → UInt8) : Prop := ∀ j, j < n → w.cell? ⟨g, j, none⟩ = some (.int .u8 (f j).toNat) ∧ w.frozen? ⟨g, j, none⟩ = false
theorem BytesAt.set {w : World} {g n : Nat} {f : Nat → UInt8} (h : BytesAt w g n f) {o : Nat} (ho : o < n) (b : UInt8) : BytesAt (w.setCell ⟨g, o, none⟩ (.int .u8 b.toNat)) g n (fun j => if j = o then b else f j) := fun j hj => by
  refine ⟨?_, by rw [frozen_setCell]; exact (h j hj).2⟩
  dsimp only
  by_cases e : j = o
  · subst e
    rw [if_pos rfl]
    exact cell_setCell_eq _ _ _ _ (h j hj).1
  · rw [if_neg e, cell_setCell_ne _ _ _ _ _ (by omega)]
    exact (h j hj).1
theorem BytesAt.congr {w : World} {g n : Nat} {f f' : Nat → UInt8} (h : BytesAt w g n f) (e : ∀ j, j < n → f j = f' j) : BytesAt w g n f' := fun j hj => by rw [← e j hj]; exact h j hj
theorem BytesAt.drew {w : World} {g n : Nat} {f : Nat → UInt8} (h : BytesAt w g n f) : BytesAt w.drew g n f := fun j hj => h j hj

/-- Where a byte comes from when i pairs are exchanged. -/
def src (n i p : Nat) : Nat := if p < i ∨ n ≤ p + i then n - 1 - p else p

theorem src_step (f : Nat → UInt8) {n i j p : Nat} (hj : (n : Int) - 1 - i = j) (hij : i < j) (hp : p < n) :
    (if p = j then f (src n i i) else if p = i then f (src n i j) else f (src n i p)) = f (src n (i + 1) p) := by
  have h1 : src n i i = i := by unfold src; rw [if_neg (by omega)]
  have h2 : src n i j = j := by unfold src; rw [if_neg (by omega)]
  rw [h1, h2]
  by_cases e1 : p = j
  · rw [if_pos e1]; congr 1; unfold src; rw [if_pos (by omega)]; omega
  · rw [if_neg e1]
    by_cases e2 : p = i
    · rw [if_pos e2]; congr 1; unfold src; rw [if_pos (by omega)]; omega
    · rw [if_neg e2]; congr 1; unfold src
      by_cases e3 : p < i ∨ n ≤ p + i
      · rw [if_pos e3, if_pos (by omega)]
      · rw [if_neg e3, if_neg (by omega)]
theorem src_step' (f : Nat → UInt8) {n i j p : Nat} (hj : (n : Int) - 1 - i = j) (hij : i < j) (hp : p < n) :
    (if p = i then f (src n i j) else if p = j then f (src n i i) else f (src n i p)) = f (src n (i + 1) p) := by
  rw [← src_step f hj hij hp]
  by_cases e1 : p = j
  · rw [if_neg (by omega), if_pos e1, if_pos e1]
  · rw [if_neg e1, if_neg e1]

set_option maxRecDepth 100000 in
set_option maxHeartbeats 4000000 in
theorem reverseB_c (g n cap : Nat) (f : Nat → UInt8) (hn : n ≤ 1152921504606846976) (hc : n ≤ cap) (w : World) (h : BytesAt w g n f) :
    Calls Try.prog 88 #[.slice (some ⟨g, 0, none⟩) n cap] w fun e w' => e = .returned (.tuple #[]) ∧ BytesAt w' g n (fun j => f (n - 1 - j)) ∧ Below g w w' ∧ w.heap.size ≤ w'.heap.size := by
  replace h := Lib.hid h
  go_enter Try.func88, Try.ntmps88
  go_wp2_with fail
  go_loopw [2, 3] (fun a b wr => ∃ i : Nat, 2 * i ≤ n + 1 ∧ a = .int .i64 i ∧ b = .int .i64 ((n : Int) - 1 - i) ∧ Hid (BytesAt wr g n fun p => f (src n i p)) ∧ Below g w wr ∧ w.heap.size ≤ wr.heap.size) (fun a _ _ => n - (intOf a).toNat)
  case atStart => exact ⟨0, by omega, by simp, by simp, h.out.congr (fun j hj => by unfold src; rw [if_neg (by omega)]), Below.refl _ _, Nat.le_refl _⟩
  case round =>
    obtain ⟨i, hi, rfl, rfl, hB, hw, hs⟩ := hrel
    by_cases hlt : (i : Int) < (n : Int) - 1 - i
    · obtain ⟨j, hj⟩ : ∃ j : Nat, (n : Int) - 1 - i = j := ⟨n - 1 - i, by omega⟩
      rw [hj] at hlt
      have hjn : j < n := by omega
      have hin : i < n := by omega
      have hij : i < j := by omega
      obtain ⟨e1, e2⟩ := hB.out i hin
      obtain ⟨e3, e4⟩ := hB.out j hjn
      rw [hj]
      have hBi := (hB.out.set hin (f (src n i j))).set hjn (f (src n i i))
      have hBj := (hB.out.set hjn (f (src n i i))).set hin (f (src n i j))
      replace hBi := Lib.hid hBi; replace hBj := Lib.hid hBj
      replace hj := Lib.hid hj
      go_wp2_with fail
      go_region
      all_goals go_wp2_with fail
      all_goals
        go_roundw
        case rel =>
          have h := hj.out
          refine ⟨i + 1, by omega, by go_num, by congr 1; omega, ?_, by go_grown, by simpa using hs⟩
          first
            | exact hBi.out.drew.congr fun p hp => src_step f h hij hp
            | exact hBj.out.drew.congr fun p hp => src_step' f h hij hp
        case measure => simp [intOf]; omega
    · have hfin := hB.out.congr (f' := fun j => f (n - 1 - j)) fun p hp => by unfold src; congr 1; split <;> omega
      replace hfin := Lib.hid hfin
      go_wp2_with fail
      go_returns
      exact ⟨rfl, hfin.out, hw, hs⟩

end Go.Proofs.Ytpblhonnknmjjaa
