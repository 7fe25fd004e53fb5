/- What packing answers, in plain Lean: the heap of the reachable cells and the roots as they are there. -/
import Derived.Test.YtajbgkpjmgmdhaaSweep4
namespace Go.Proofs.Ytajbgkpjmgmdhaa
open Go.RowKit
set_option linter.unusedVariables false
set_option linter.unusedSimpArgs false

def movedP (at_ : List Int) (v : GVal) : GVal := if v.kind = 6 then ⟨6, at_.getD v.n.toNat 0, v.s⟩ else v
def cellMoved (at_ : List Int) (c : GCell) : GCell := ⟨c.kind, c.n, c.s, movedP at_ c.a, movedP at_ c.b⟩
def zeroG : GCell := ⟨0, 0, ⟨#[]⟩, ⟨0, 0, ⟨#[]⟩⟩, ⟨0, 0, ⟨#[]⟩⟩⟩
def packedC (h : List GCell) (roots : List GVal) : List GCell := (copiedP h roots).1.map fun x => cellMoved (copiedP h roots).2 (h.getD x.toNat zeroG)
def packedV (h : List GCell) (roots : List GVal) : List GVal := roots.map (movedP (copiedP h roots).2)

theorem meetP_keeps {s : BfsS} {v : GVal} {i : Nat} {x : Int} (h : s.2[i]? = some x) (h0 : 0 ≤ x) : (meetP s v).2[i]? = some x := by
  unfold meetP
  split
  · rename_i hc
    by_cases e : v.n.toNat = i
    · exfalso
      have := hc.2
      rw [e, List.getD_eq_getElem?_getD, h] at this
      simp at this; omega
    · simp only; rw [List.getElem?_set_ne e]; exact h
  · exact h
theorem foldl_keeps {l : List GVal} : ∀ {s : BfsS} {i : Nat} {x : Int}, s.2[i]? = some x → 0 ≤ x → (l.foldl meetP s).2[i]? = some x := by
  induction l with
  | nil => exact fun h _ => h
  | cons v l ih => exact fun h h0 => ih (meetP_keeps h h0) h0
theorem bfsP_keeps (h : List GCell) (f : Nat) : ∀ {k : Nat} {s : BfsS} {i : Nat} {x : Int}, s.2[i]? = some x → 0 ≤ x → (bfsP h f k s).2[i]? = some x := by
  induction f with
  | zero => exact fun h _ => h
  | succ f ih =>
    intro k s i x hx h0
    unfold bfsP
    split
    · exact hx
    · split
      · exact hx
      · exact ih (meetP_keeps (meetP_keeps hx h0) h0) h0
theorem RLoop.keeps {h : List GCell} {roots : List GVal} {k : Nat} {s : BfsS} (L : RLoop h roots k s) {i : Nat} {x : Int} (hx : s.2[i]? = some x) (h0 : 0 ≤ x) : (copiedP h roots).2[i]? = some x := by
  unfold copiedP
  refine bfsP_keeps _ _ ?_ h0
  unfold startP
  have e : roots = roots.take k ++ roots.drop k := (List.take_append_drop k roots).symm
  rw [e, List.foldl_append]
  exact foldl_keeps (by rw [← L.eq]; exact hx) h0
theorem BLoop.keeps {h : List GCell} {roots : List GVal} {k : Nat} {s : BfsS} (L : BLoop h roots k s) {i : Nat} {x : Int} (hx : s.2[i]? = some x) (h0 : 0 ≤ x) : (copiedP h roots).2[i]? = some x := by
  rw [← L.eq]; exact bfsP_keeps _ _ hx h0
/-- A met place has a number. -/
theorem BInv.num {n : Nat} {P : Nat → Prop} {s : BfsS} (B : BInv n P s) {i : Nat} (hi : i < n) (h : (i : Int) ∈ s.1) : ∃ x, s.2[i]? = some x ∧ 0 ≤ x ∧ x < s.1.length := by
  have hl : i < s.2.length := by rw [B.len]; exact hi
  refine ⟨s.2[i], List.getElem?_eq_getElem hl, ?_⟩
  rcases B.at_ i _ (List.getElem?_eq_getElem hl) with ⟨_, h2⟩ | ⟨h1, h2⟩
  · exact absurd h h2
  · have := (List.getElem?_eq_some_iff.1 h2).1
    exact ⟨h1, by omega⟩
theorem movedP_of {s : BfsS} {at_ : List Int} {v : GVal} (H : v.kind = 6 → ∃ i : Nat, ∃ x, v.n = (i : Int) ∧ s.2[i]? = some x ∧ at_[i]? = some x) : movedP s.2 v = movedP at_ v := by
  unfold movedP
  split
  · rename_i h6
    obtain ⟨i, x, e, h1, h2⟩ := H h6
    rw [e, Int.toNat_natCast, List.getD_eq_getElem?_getD, List.getD_eq_getElem?_getD, h1, h2]
  · rfl
/-- All values that name a cell have no text. -/
structure HeapBare (h : List GCell) (roots : List GVal) : Prop where
  roots : ∀ v ∈ roots, v.kind = 6 → v.s = ⟨#[]⟩
  cells : ∀ c ∈ h, (c.a.kind = 6 → c.a.s = ⟨#[]⟩) ∧ (c.b.kind = 6 → c.b.s = ⟨#[]⟩)

/-- What a meeting hands back is what the value becomes. -/
theorem meet_num {n : Nat} {P : Nat → Prop} {s : BfsS} (B : BInv n P s) {v : GVal} (hv : v.kind = 6 → ∃ k : Nat, v.n = (k : Int) ∧ k < n ∧ P k) (h6 : v.kind = 6) : ∃ (i : Nat) (x : Int), v.n = (i : Int) ∧ (meetP s v).2[i]? = some x ∧ 0 ≤ x ∧ x < (meetP s v).1.length := by
  obtain ⟨B2, hm⟩ := B.meet hv
  obtain ⟨i, e, hi, _⟩ := hv h6
  obtain ⟨x, h1, h2, h3⟩ := B2.num hi (e ▸ hm h6)
  exact ⟨i, x, e, h1, h2, h3⟩

end Go.Proofs.Ytajbgkpjmgmdhaa
