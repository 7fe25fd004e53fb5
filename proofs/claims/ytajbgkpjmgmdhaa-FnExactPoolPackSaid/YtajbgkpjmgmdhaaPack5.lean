/- l11Copy: what its loops keep, in plain Lean. -/
import Derived.Test.YtajbgkpjmgmdhaaPack4
namespace Go.Proofs.Ytajbgkpjmgmdhaa
open Go.RowKit
set_option linter.unusedVariables false
set_option linter.unusedSimpArgs false
attribute [local go_sem] Ext.cell

/-- No place has a number below -1. -/
def Neg1 (s : BfsS) : Prop := ∀ x ∈ s.2, -1 ≤ x
theorem Neg1.meet {s : BfsS} (h : Neg1 s) (v : GVal) : Neg1 (meetP s v) := by
  unfold meetP
  split
  · intro x hx
    rcases List.mem_or_eq_of_mem_set hx with h' | rfl
    · exact h x h'
    · omega
  · exact h
theorem Neg1.bound {n : Nat} {P : Nat → Prop} {s : BfsS} (h : Neg1 s) (B : BInv n P s) : ∀ x ∈ s.2, -1 ≤ x ∧ x ≤ n := fun x hx => by
  refine ⟨h x hx, ?_⟩
  obtain ⟨i, hi, rfl⟩ := List.getElem_of_mem hx
  have := B.le
  rcases B.at_ i _ (List.getElem?_eq_getElem hi) with ⟨h1, _⟩ | ⟨h1, h2⟩
  · omega
  · have := (List.getElem?_eq_some_iff.1 h2).1; omega
theorem Neg1.start (n : Nat) : Neg1 ([], List.replicate n (-1)) := fun x hx => by
  have := (List.mem_replicate.1 hx).2; omega
theorem Neg1.foldl {l : List GVal} : ∀ {s : BfsS}, Neg1 s → Neg1 (l.foldl meetP s) := by
  induction l with
  | nil => exact fun h => h
  | cons v l ih => exact fun h => ih (h.meet v)
theorem Neg1.bfs (h : List GCell) (f : Nat) : ∀ {k : Nat} {s : BfsS}, Neg1 s → Neg1 (bfsP h f k s) := by
  induction f with
  | zero => exact fun h => h
  | succ f ih =>
    intro k s hx
    unfold bfsP
    split
    · exact hx
    · split
      · exact hx
      · exact ih ((hx.meet _).meet _)
theorem Neg1.copied (h : List GCell) (roots : List GVal) : Neg1 (copiedP h roots) := Neg1.bfs _ _ (Neg1.foldl (Neg1.start _))
theorem bfsP_old (h : List GCell) (f : Nat) : ∀ {k : Nat} {s : BfsS} {i : Nat} {x : Int}, s.1[i]? = some x → (bfsP h f k s).1[i]? = some x := by
  induction f with
  | zero => exact fun h => h
  | succ f ih =>
    intro k s i x hx
    unfold bfsP
    split
    · exact hx
    · split
      · exact hx
      · exact ih (meetP_old (meetP_old hx))
theorem BLoop.old {h : List GCell} {roots : List GVal} {k : Nat} {s : BfsS} (L : BLoop h roots k s) {i : Nat} {x : Int} (hx : s.1[i]? = some x) : (copiedP h roots).1[i]? = some x := by
  rw [← L.eq]; exact bfsP_old _ _ hx
theorem movedS_eq {s : BfsS} {at_ : List Int} {v : GVal} (hb : v.kind = 6 → v.s = ⟨#[]⟩) (H : v.kind = 6 → ∃ (i : Nat) (x : Int), v.n = (i : Int) ∧ s.2[i]? = some x ∧ at_[i]? = some x) : movedS s.2 v = movedP at_ v := by
  unfold movedS movedP
  split
  · rename_i h6
    obtain ⟨i, x, e, h1, h2⟩ := H h6
    rw [e, Int.toNat_natCast, List.getD_eq_getElem?_getD, List.getD_eq_getElem?_getD, h1, h2, hb h6]
  · rfl
theorem TSt.kept {S : Nat → Prop} {lo : Nat} {w w' : World} {b ga n : Nat} {A : Nat → Prop} {s : BfsS} (h : TSt lo w b ga n A s) (hk : Kept S w w') (hS : ∀ q, S q → q < w.heap.size → A q) : TSt lo w' b ga n A s :=
  let ⟨ov, h1, h2, h3⟩ := h.ex
  have hb : b < w.heap.size := World.block_lt_of_cell? _ _ h1.box2.1
  have hg : ga < w.heap.size := (h.own.base ga rfl).2
  ⟨⟨ov, h1.kept hk (fun e => h.nb (hS _ e hb)), h2.kept hk (fun g hg e => (h3 g hg).2.2 (hS _ e (h2.base g hg).2)), h3⟩, h.own.kept hk (fun g hq e => by
    obtain rfl : ga = g := by simpa [Value.ownBlock] using hq
    exact h.na (hS _ e hg)), h.len, h.wr.kept hk (fun e => h.nb (hS _ e hb)), h.ne, h.lo_, h.na, h.nb⟩
theorem TSt.regrow {lo : Nat} {w : World} {b ga n : Nat} {A A' : Nat → Prop} {s : BfsS} (h0 : TSt lo w b ga n A s) (hA : ∀ q, A' q → A q ∨ w.heap.size ≤ q) : TSt lo w b ga n A' s :=
  let ⟨ov, h1, h2, h3⟩ := h0.ex
  have hb : b < w.heap.size := World.block_lt_of_cell? _ _ h1.box2.1
  have hg : ga < w.heap.size := (h0.own.base ga rfl).2
  have no : ∀ q, ¬ A q → q < w.heap.size → ¬ A' q := fun q h1 h2 h3 => (hA q h3).elim h1 (fun h => by omega)
  ⟨⟨ov, h1, h2, fun g hg => ⟨(h3 g hg).1, (h3 g hg).2.1, no g (h3 g hg).2.2 (h2.base g hg).2⟩⟩, h0.own, h0.len, h0.wr, h0.ne, h0.lo_, no _ h0.na hg, no _ h0.nb hb⟩

theorem TSt.lessA {lo : Nat} {w : World} {b ga n : Nat} {A A' : Nat → Prop} {s : BfsS} (h0 : TSt lo w b ga n A s) (hA : ∀ q, A' q → A q) : TSt lo w b ga n A' s := h0.regrow (fun q hq => .inl (hA q hq))
theorem made_zero (n : Nat) : (madeCells #[.int .i64 0] (n * 1)).toList = rowsOf intRow (List.replicate n 0) := by
  rw [Nat.mul_one]
  unfold madeCells
  induction n with
  | zero => simp [rowsOf]
  | succ n ih =>
    rw [List.replicate_succ', rowsOf_append, ← ih]
    simp [Array.range_succ, rowsOf, intRow, Nat.mod_one]

end Go.Proofs.Ytajbgkpjmgmdhaa
