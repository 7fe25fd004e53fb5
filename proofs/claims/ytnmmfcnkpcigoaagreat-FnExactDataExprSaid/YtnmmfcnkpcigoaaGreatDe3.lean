/- Parts of the proof, merged: Own. -/
import Derived.Deep.AppendLies
import Derived.Test.YtnmmfcnkpcigoaaGreatDe2
/- Slices that the call owns, grown by append. -/
namespace Go.Proofs.YtnmmfcnkpcigoaaGreat
open Go.RowKit
set_option linter.unusedVariables false
set_option linter.unusedSimpArgs false

theorem own_below {w w' : World} {base : Nat} {e : TypeId} {size : Nat} {v : Value} {n : Nat} {xs : List Value} (h : w.ownsRow base e size v n xs) (hb : Below w.heap.size w w') : w'.ownsRow base e size v n xs := by
  refine ⟨h.1, ?_⟩
  rcases h.2 with h0 | ⟨g, cap, cur, hv, h1, h2, h3⟩
  · exact .inl h0
  · refine .inr ⟨g, cap, cur, hv, h1, ?_, h3⟩
    have hlt : g < w.heap.size := by
      rcases Nat.lt_or_ge g w.heap.size with hlt | hge
      · exact hlt
      · rw [Array.getElem?_eq_none hge] at h2; cases h2
    rw [hb.block g hlt, h2]
theorem own_kept {S : Nat → Prop} {w w' : World} {base : Nat} {e : TypeId} {size : Nat} {v : Value} {n : Nat} {xs : List Value} (h : w.ownsRow base e size v n xs) (hk : Kept S w w') (hS : ∀ g, v.ownBlock = some g → ¬ S g) : w'.ownsRow base e size v n xs := by
  refine ⟨h.1, ?_⟩
  rcases h.2 with h0 | ⟨g, cap, cur, hv, h1, h2, h3⟩
  · exact .inl h0
  · refine .inr ⟨g, cap, cur, hv, h1, ?_, h3⟩
    have hlt : g < w.heap.size := by
      rcases Nat.lt_or_ge g w.heap.size with hlt | hge
      · exact hlt
      · rw [Array.getElem?_eq_none hge] at h2; cases h2
    rw [hk g hlt (hS g (by rw [hv]; rfl)), h2]
theorem own_none {w : World} {base : Nat} {e : TypeId} {size : Nat} : w.ownsRow base e size (.slice none 0 0) 0 [] := ⟨by simp, .inl ⟨rfl, rfl⟩⟩
theorem own_cells {w : World} {base : Nat} {e : TypeId} {size : Nat} {v : Value} {n : Nat} {xs : List Value} (h : w.ownsRow base e size v n xs) (hn : 0 < n) :
    ∃ g cap, v = .slice (some ⟨g, 0, none⟩) n cap ∧ base ≤ g ∧ g < w.heap.size ∧ n ≤ cap ∧ cap ≤ 9223372036854775807 ∧ RowAt w g 0 xs ∧ Wr w g 0 (n * size) := by
  rcases h.2 with ⟨_, h0⟩ | ⟨g, cap, cur, hv, h1, h2, h3, h4, h5, h6⟩
  · omega
  have hlt : g < w.heap.size := by
    rcases Nat.lt_or_ge g w.heap.size with hlt | hge
    · exact hlt
    · rw [Array.getElem?_eq_none hge] at h2; cases h2
  refine ⟨g, cap, hv, h1, hlt, h3, by unfold maxLen at h4; omega, fun j c hc => ?_, fun j hj => ?_⟩
  · rw [cell_of_row w g _ cur e (0, 0) h2, Nat.zero_add, ← Array.getElem?_toList]
    rw [← h6, List.getElem?_take] at hc
    split at hc
    · exact hc
    · cases hc
  · have hjc : j < cur.size := by
      rw [h5]
      exact Nat.lt_of_lt_of_le hj (Nat.mul_le_mul_right _ h3)
    refine ⟨cur[j], ?_, ?_⟩
    · rw [cell_of_row w g _ cur e (0, 0) h2, Nat.zero_add, Array.getElem?_eq_getElem hjc]
    · simp [World.frozen?, h2]
theorem own_sl {α : Type} {R : Reading α} {w : World} {base : Nat} {e : TypeId} {v : Value} {f : α → Value} (xs : List α) (h : w.ownsRow base e 1 v xs.length (xs.map f)) (hf : ∀ x ∈ xs, R base w [f x] x) : Sl R 1 base w v xs := by
  by_cases h0 : 0 < xs.length
  · obtain ⟨g, cap, rfl, h1, h2, h3, h4, h5, h6⟩ := own_cells h h0
    refine ⟨_, cap, rfl, h3, h4, fun _ => ⟨g, 0, h1, rfl, fun i x hx => ⟨[f x], hf x (List.mem_of_getElem? hx), fun j c hc => ?_⟩⟩⟩
    cases j with
    | zero =>
      simp at hc
      subst hc
      have := h5 i (f x) (by rw [List.getElem?_map, hx]; rfl)
      simpa using this
    | succ j => simp at hc
  · have h1 : xs = [] := List.length_eq_zero_iff.1 (by omega)
    subst h1
    rcases h.2 with ⟨rfl, _⟩ | ⟨g, cap, cur, rfl, h1, h2, h3, h4, h5⟩
    · exact Sl.nil
    · exact ⟨_, cap, rfl, h3, by unfold maxLen at h4; omega, fun h => absurd h (by simp)⟩
theorem own_base {w : World} {base : Nat} {e : TypeId} {size : Nat} {v : Value} {n : Nat} {xs : List Value} (h : w.ownsRow base e size v n xs) : ∀ g, v.ownBlock = some g → base ≤ g ∧ g < w.heap.size := fun g hg => by
  rcases h.2 with ⟨rfl, _⟩ | ⟨g', cap, cur, rfl, h1, h2, h3⟩
  · cases hg
  · obtain rfl : g' = g := by simpa [Value.ownBlock] using hg
    refine ⟨h1, ?_⟩
    rcases Nat.lt_or_ge g' w.heap.size with hlt | hge
    · exact hlt
    · rw [Array.getElem?_eq_none hge] at h2; cases h2
theorem kept_grown {w w' : World} {row : Option Nat} (h : w.grownBy w' row) : Kept (fun k => some k = row) w w' := fun k h1 h2 => h.block k h1 h2
theorem below_grown {w w1 w' : World} {base : Nat} {e : TypeId} {size : Nat} {v : Value} {n : Nat} {xs : List Value} (h : Below base w w1) (hb : base ≤ w1.heap.size) (hO : w1.ownsRow base e size v n xs) (hg : w1.grownBy w' v.ownBlock) : Below base w w' :=
  h.grown hg hb (fun k hk => (own_base hO k hk).1)
theorem kept_of {w w1 w' : World} {row : Option Nat} (h : w1.grownBy w' row) (hb : Below w.heap.size w w1) : Kept (fun k => some k = row) w w' := (Kept.below hb).trans hb.size (kept_grown h)
theorem below_grown2 {w wr w1 w' : World} {base : Nat} {e : TypeId} {size : Nat} {v : Value} {n : Nat} {xs : List Value} (hg : w1.grownBy w' v.ownBlock) (hB : Below wr.heap.size wr w1) (h : Below base w wr) (hb : base ≤ wr.heap.size) (hO : wr.ownsRow base e size v n xs) : Below base w w' :=
  below_grown (h.trans (hB.mono hb)) (Nat.le_trans hb hB.size) (own_below hO hB) hg
theorem heap_alloc_new' (w : World) (o : Obj) (k : Nat) (hk : k = w.heap.size) : (w.alloc o).heap[k]? = some o := by subst hk; exact heap_alloc_new w o
/-- A block made now, owned. -/
theorem own_new (w : World) (cs : Array Value) (e : TypeId) (size n : Nat) (h : cs.size = n * size) (hm : n ≤ maxLen) (base : Nat) (hb : base ≤ w.heap.size) : (w.alloc (.cells cs e)).ownsRow base e size (.slice (some ⟨w.heap.size, 0, none⟩) n n) n cs.toList :=
  ⟨by simpa using h, .inr ⟨w.heap.size, n, cs, rfl, hb, heap_alloc_new w _, Nat.le_refl _, hm, h, by rw [← h]; exact List.take_of_length_le (by simp)⟩⟩

end Go.Proofs.YtnmmfcnkpcigoaaGreat
