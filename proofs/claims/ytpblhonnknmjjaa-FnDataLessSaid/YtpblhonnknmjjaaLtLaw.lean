/- Of two right values whose nodes differ just one comes first: the order of node lists, in plain Lean. -/
import Derived.Test.YtpblhonnknmjjaaLess
namespace Go.Proofs.Ytpblhonnknmjjaa
open Go.RowKit
set_option linter.unusedVariables false
set_option linter.unusedSimpArgs false

theorem bytesLess_flip : ∀ (a b : List UInt8), a ≠ b → Op.bytesLess b a = !Op.bytesLess a b := by
  intro a
  induction a with
  | nil =>
    intro b h
    cases b with
    | nil => exact absurd rfl h
    | cons y b => rfl
  | cons x a ih =>
    intro b h
    cases b with
    | nil => rfl
    | cons y b =>
      unfold Op.bytesLess
      by_cases e : x = y
      · subst e
        have : a ≠ b := fun e => h (by rw [e])
        have := ih b this
        simpa using this
      · have e' : ¬ y = x := fun h => e h.symm
        have h1 : x < y ∨ y < x := by
          rcases Nat.lt_trichotomy x.toNat y.toNat with h | h | h
          · exact .inl (UInt8.lt_iff_toNat_lt.2 h)
          · exact absurd (UInt8.toNat_inj.1 h) e
          · exact .inr (UInt8.lt_iff_toNat_lt.2 h)
        rcases h1 with h1 | h1
        · have h2 : ¬ y < x := fun h => by have := UInt8.lt_iff_toNat_lt.1 h; have := UInt8.lt_iff_toNat_lt.1 h1; omega
          simp [e, e', h1, h2]
        · have h2 : ¬ x < y := fun h => by have := UInt8.lt_iff_toNat_lt.1 h; have := UInt8.lt_iff_toNat_lt.1 h1; omega
          simp [e, e', h1, h2]
theorem nodeCmp_flip (x y : GDNode) : nodeCmp y x = (nodeCmp x y).map (fun b => !b) := by
  unfold nodeCmp
  by_cases h1 : x.kind = y.kind
  · by_cases h2 : x.n = y.n
    · by_cases h3 : x.s.toList = y.s.toList
      · by_cases h4 : x.kids.length = y.kids.length
        · simp [h1, h2, h3, h4]
        · have h4' : ¬ y.kids.length = x.kids.length := fun h => h4 h.symm
          have e : (y.kids.length < x.kids.length) = ¬ (x.kids.length < y.kids.length) := by simp; omega
          simp only [h1, h2, h3, bne_iff_ne, ne_eq, not_true_eq_false, if_false, beq_self_eq_true, Bool.not_true, Bool.false_eq_true, Int.ofNat_inj, h4, h4', not_false_eq_true, if_true, Option.map_some, Int.ofNat_lt]
          simp only [e, decide_not]
      · have h3' : ¬ y.s.toList = x.s.toList := fun h => h3 h.symm
        simp [h1, h2, h3, h3', bytesLess_flip _ _ h3]
    · have h2' : ¬ y.n = x.n := fun h => h2 h.symm
      have e : (y.n < x.n) = ¬ (x.n < y.n) := by simp; omega
      simp only [h1, bne_iff_ne, ne_eq, not_true_eq_false, if_false, h2, h2', not_false_eq_true, if_true, Option.map_some, e, decide_not]
  · have h1' : ¬ y.kind = x.kind := fun h => h1 h.symm
    have e : (y.kind < x.kind) = ¬ (x.kind < y.kind) := by simp; omega
    simp only [bne_iff_ne, ne_eq, h1, h1', not_false_eq_true, if_true, Option.map_some, e, decide_not]
/-- The lists are alike as far as both go. -/
def Alike : List GDNode → List GDNode → Prop
  | x :: xs, y :: ys => nodeCmp x y = none ∧ Alike xs ys
  | _, _ => True
theorem lessL_ways : ∀ (a b : List GDNode), (Alike a b ∧ lessL a b = false ∧ lessL b a = false) ∨ (¬ Alike a b ∧ lessL b a = !lessL a b) := by
  intro a
  induction a with
  | nil => intro b; left; refine ⟨trivial, rfl, ?_⟩; cases b <;> rfl
  | cons x a ih =>
    intro b
    cases b with
    | nil => exact .inl ⟨trivial, rfl, rfl⟩
    | cons y b =>
      have hf := nodeCmp_flip x y
      unfold lessL Alike
      cases hc : nodeCmp x y with
      | none =>
        rw [hc] at hf
        simp only [Option.map_none] at hf
        rw [hf]
        rcases ih b with ⟨h1, h2, h3⟩ | ⟨h1, h2⟩
        · exact .inl ⟨⟨rfl, h1⟩, h2, h3⟩
        · exact .inr ⟨fun h => h1 h.2, h2⟩
      | some d =>
        rw [hc] at hf
        simp only [Option.map_some] at hf
        rw [hf]
        exact .inr ⟨fun h => (by cases h.1), rfl⟩
end Go.Proofs.Ytpblhonnknmjjaa
