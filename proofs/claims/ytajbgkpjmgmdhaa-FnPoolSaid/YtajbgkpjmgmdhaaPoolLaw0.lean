/- What making a cell in a pool keeps, in plain Lean. -/
import Derived.Test.YtajbgkpjmgmdhaaPoolMake4
import Derived.Test.YtajbgkpjmgmdhaaPoolUsedI
namespace Go.Proofs.Ytajbgkpjmgmdhaa
open Go.RowKit
set_option linter.unusedVariables false
set_option linter.unusedSimpArgs false

theorem pm_facts {p : GPool} {c : GCell} (h : pmCode p c = 0) : poolOk p = true ∧ poolFits p c = true ∧ ∃ (m j : Nat), p.free.length = m + 1 ∧ p.free[m]? = some (j : Int) ∧ j < p.cells.length ∧ pmAt p c = j ∧ pmPool p c = ⟨p.cells.set j c, p.free.take m⟩ := by
  have h1 : poolOk p = true ∧ poolFits p c = true := by
    unfold pmCode at h
    split at h
    · rename_i hh; exact hh
    · cases h
  have h2 : ¬ p.free.length = 0 := by
    unfold pmCode at h
    rw [if_pos h1] at h
    intro h0
    rw [if_pos h0] at h
    cases h
  obtain ⟨-, -, hF⟩ := poolOk_parts h1.1
  obtain ⟨m, hm⟩ : ∃ m, p.free.length = m + 1 := ⟨p.free.length - 1, by omega⟩
  obtain ⟨f, hf⟩ : ∃ f, p.free[m]? = some f := ⟨_, List.getElem?_eq_getElem (by omega)⟩
  obtain ⟨j, rfl, hj⟩ := hF m f hf
  have ha : pmAt p c = j := by unfold pmAt; rw [if_pos h, hm, Nat.add_sub_cancel, List.getD_eq_getElem?_getD, hf]; rfl
  refine ⟨h1.1, h1.2, m, j, hm, hf, hj, ha, ?_⟩
  unfold pmPool
  rw [if_pos h, ha, hm, Nat.add_sub_cancel, Int.toNat_natCast]
theorem holds_less {p q : GPool} {v : GVal} (hl : q.cells.length = p.cells.length) (hs : ∀ x ∈ q.free, x ∈ p.free) (h : poolHolds p v = true) : poolHolds q v = true := by
  unfold poolHolds at h ⊢
  rw [hl]
  rw [Bool.and_eq_true, Bool.or_eq_true] at h ⊢
  refine ⟨h.1, h.2.imp id (fun h2 => ?_)⟩
  simp only [Bool.not_eq_true', List.contains_eq_mem, decide_eq_false_iff_not] at h2 ⊢
  exact fun hx => h2 (hs _ hx)
theorem fits_less {p q : GPool} {c : GCell} (hl : q.cells.length = p.cells.length) (hs : ∀ x ∈ q.free, x ∈ p.free) (h : poolFits p c = true) : poolFits q c = true := by
  unfold poolFits at h ⊢
  rw [hl]
  simp only [Bool.and_eq_true, Bool.or_eq_true] at h ⊢
  exact ⟨⟨h.1.1, holds_less hl hs h.1.2⟩, h.2.imp id (holds_less hl hs)⟩
theorem pm_law {p : GPool} {c : GCell} (h : pmCode p c = 0) : ∃ j : Nat, pmAt p c = j ∧ j < (pmPool p c).cells.length ∧ (pmPool p c).cells[j]? = some c ∧ poolOk (pmPool p c) = true ∧ poolUsed (pmPool p c) = poolUsed p + 1 ∧ p.free.contains (j : Int) = true ∧ (pmPool p c).free.contains (j : Int) = false := by
  obtain ⟨h1, h2, m, j, hm, hf, hj, ha, hp⟩ := pm_facts h
  have h' : PoolOk p := by unfold poolOk at h1; simpa using h1
  rw [hp]
  have hjm : (j : Int) ∉ p.free.take m := by
    obtain ⟨j', e, _, hn, _⟩ := h'.2.2.1 m _ (by omega) hf
    exact hn
  have hsub : ∀ x ∈ p.free.take m, x ∈ p.free := fun x hx => List.mem_of_mem_take hx
  have hall : p.free = p.free.take m ++ [(j : Int)] := by
    conv => lhs; rw [← List.take_append_drop m p.free]
    congr 1
    rw [List.drop_eq_getElem_cons (by omega), List.drop_of_length_le (by omega)]
    have := (List.getElem?_eq_some_iff.1 hf).2
    rw [this]
  have hlen : (p.cells.set j c).length = p.cells.length := by simp
  have hok : poolOk ⟨p.cells.set j c, p.free.take m⟩ = true := by
    refine poolOk_yes ⟨by simpa using h'.1, ?_, fun i f hi hfi => ?_, fun i x hi hxi => ?_⟩
    · have := h'.2.1
      simp only [List.length_take, List.length_set]; omega
    · have hil : i < m := by simp only [List.length_take] at hi; omega
      have hfi' : p.free[i]? = some f := by
        have h := hfi
        simp only [List.getElem?_take, if_pos hil] at h
        exact h
      obtain ⟨j', e, h3, h4, x, h5, h6⟩ := h'.2.2.1 i f (by omega) hfi'
      refine ⟨j', e, by simpa using h3, ?_, x, ?_, h6⟩
      · simp only [List.take_take]
        rw [Nat.min_eq_left (by omega)]; exact h4
      · have hne : j ≠ j' := fun e' => hjm (by
          subst e'
          have : f ∈ p.free.take m := List.mem_of_getElem? (i := i) (by rw [List.getElem?_take, if_pos hil]; exact hfi')
          rwa [e] at this)
        simp only
        rw [List.getElem?_set_ne hne]; exact h5
    · simp only [List.length_set] at hi
      by_cases e : j = i
      · subst e
        simp only [List.getElem?_set_self hj] at hxi
        obtain rfl := Option.some.inj hxi
        exact .inr (fits_less (by simp) hsub h2)
      · simp only [List.getElem?_set_ne e] at hxi
        rcases h'.2.2.2 i x hi hxi with h3 | h3
        · left
          rw [hall] at h3
          rcases List.mem_append.1 h3 with h4 | h4
          · exact h4
          · simp at h4; exact absurd h4.symm (by omega)
        · exact .inr (fits_less (by simp) hsub h3)
  refine ⟨j, ha, by simpa using hj, by simp [List.getElem?_set_self hj], hok, ?_, ?_, ?_⟩
  · unfold poolUsed
    rw [if_pos hok, if_pos h1]
    simp only [List.length_set, List.length_take]
    omega
  · rw [List.contains_eq_mem]; exact decide_eq_true (List.mem_of_getElem? hf)
  · rw [List.contains_eq_mem]; exact decide_eq_false hjm

end Go.Proofs.Ytajbgkpjmgmdhaa
