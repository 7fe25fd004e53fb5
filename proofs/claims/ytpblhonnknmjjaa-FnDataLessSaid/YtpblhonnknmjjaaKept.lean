/- What may be written, what is kept, what is written; digits. No program is named here. -/
import Derived.Test.YtpblhonnknmjjaaTypes
namespace Go.Proofs.Ytpblhonnknmjjaa
open Go.RowKit
set_option linter.unusedVariables false
set_option linter.unusedSimpArgs false

/-- The digits of n, ahead of s. -/
def dig (n : Nat) : UInt8 := UInt8.ofNat (48 + n % 10)
def digs (n : Nat) (s : ByteArray) : ByteArray := if n = 0 then s else digs (n / 10) (⟨#[dig n]⟩ ++ s)
def markT (n : Nat) : ByteArray := if n = 0 then ⟨#[109, 48]⟩ else ⟨#[109]⟩ ++ digs n ⟨#[]⟩
theorem digs_zero (s : ByteArray) : digs 0 s = s := by rw [digs]; rfl
theorem digs_pos {n : Nat} (h : n ≠ 0) (s : ByteArray) : digs n s = digs (n / 10) (⟨#[dig n]⟩ ++ s) := by conv => lhs; rw [digs]; rw [if_neg h]

/-! ### What may be written, and what is written -/
/-- The blocks outside S that w has are the same in w'. -/
def Kept (S : Nat → Prop) (w w' : World) : Prop := ∀ k, k < w.heap.size → ¬ S k → w'.heap[k]? = w.heap[k]?
theorem Kept.refl (S : Nat → Prop) (w : World) : Kept S w w := fun _ _ _ => rfl
theorem Kept.trans {S : Nat → Prop} {a b c : World} (h : Kept S a b) (hs : a.heap.size ≤ b.heap.size) (h' : Kept S b c) : Kept S a c := fun k h1 h2 => (h' k (by omega) h2).trans (h k h1 h2)
theorem Kept.below {S : Nat → Prop} {a b : World} (h : Below a.heap.size a b) : Kept S a b := fun k h1 _ => h.block k h1
theorem Kept.set {S : Nat → Prop} {a b : World} (h : Kept S a b) {p : Addr} (hp : S p.block) (u : Value) : Kept S a (b.setCell p u) := fun k h1 h2 =>
  (Below.heap_setCell _ _ _ _ (fun e => h2 (by rw [e]; exact hp))).trans (h k h1 h2)

/-- N cells from off on in block b may be written. -/
def Wr (w : World) (b off N : Nat) : Prop := ∀ j, j < N → ∃ c, w.cell? ⟨b, off + j, none⟩ = some c ∧ w.frozen? ⟨b, off + j, none⟩ = false
theorem Wr.below {w w' : World} {b off N : Nat} (h : Wr w b off N) (hb : Below w.heap.size w w') : Wr w' b off N := fun j hj =>
  let ⟨c, h1, h2⟩ := h j hj
  ⟨c, cell_below hb h1, by rw [hb.frozen (p := ⟨b, off + j, none⟩) (World.block_lt_of_cell? w _ h1), h2]⟩
theorem Wr.set {w : World} {b off N : Nat} (h : Wr w b off N) (o : Nat) (u : Value) : Wr (w.setCell ⟨b, o, none⟩ u) b off N := fun j hj => by
  obtain ⟨c, h1, h2⟩ := h j hj
  by_cases e : o = off + j
  · subst e; exact ⟨u, cell_setCell_eq _ _ _ _ h1, by rw [frozen_setCell, h2]⟩
  · exact ⟨c, by rw [cell_setCell_ne _ _ _ _ _ e, h1], by rw [frozen_setCell, h2]⟩
/-- The N cells from off on in block b are f 0, f 1, .. -/
def Mk (w : World) (b off N : Nat) (f : Nat → Value) : Prop := ∀ j, j < N → w.cell? ⟨b, off + j, none⟩ = some (f j)
theorem Mk.below {w w' : World} {b off N : Nat} {f : Nat → Value} (h : Mk w b off N f) (hb : Below w.heap.size w w') : Mk w' b off N f := fun j hj => cell_below hb (h j hj)
theorem Mk.kept {S : Nat → Prop} {w w' : World} {b off N : Nat} {f : Nat → Value} (h : Mk w b off N f) (hk : Kept S w w') (hS : ¬ S b) : Mk w' b off N f := fun j hj => by
  rw [World.cell?_of_block (w := w) (a := ⟨b, off + j, none⟩) (hk b (World.block_lt_of_cell? w _ (h j hj)) hS)]
  exact h j hj
theorem Mk.step {w : World} {b off N k : Nat} {f : Nat → Value} (h : Mk w b off k f) (hA : Wr w b off N) (hk : k < N) {u : Value} (hu : u = f k) : Mk (w.setCell ⟨b, off + k, none⟩ u) b off (k + 1) f := fun j hj => by
  by_cases e : j = k
  · subst e
    obtain ⟨c, h1, _⟩ := hA j hk
    rw [cell_setCell_eq _ _ _ _ h1, hu]
  · rw [cell_setCell_ne _ _ _ _ _ (by omega)]
    exact h j (by omega)

end Go.Proofs.Ytpblhonnknmjjaa
