/- Parts of the proof, merged: Reach1. -/
import Derived.Test.YtfobkbjabenkkaaGreatPe17
/- What is reached: the plain law. -/
namespace Go.Proofs.YtfobkbjabenkkaaGreat
open Go.RowKit
set_option linter.unusedVariables false
set_option linter.unusedSimpArgs false

/-- Reached from 0 by nx (places below n). -/
inductive Rc (nx : Nat → List Nat) : Nat → Prop
  | zero : Rc nx 0
  | step {i j : Nat} : Rc nx i → j ∈ nx i → Rc nx j

theorem rising_ext : ∀ (a b : List Int), a.Pairwise (· < ·) → b.Pairwise (· < ·) → (∀ x, x ∈ a ↔ x ∈ b) → a = b
  | [], [], _, _, _ => rfl
  | [], y :: b, _, _, h => by have := (h y).2 (by simp); simp at this
  | x :: a, [], _, _, h => by have := (h x).1 (by simp); simp at this
  | x :: a, y :: b, ha, hb, h => by
    obtain ⟨ha1, ha2⟩ := List.pairwise_cons.1 ha
    obtain ⟨hb1, hb2⟩ := List.pairwise_cons.1 hb
    have e : x = y := by
      have h1 := (h x).1 (by simp)
      have h2 := (h y).2 (by simp)
      rcases List.mem_cons.1 h1 with e | h1
      · exact e
      · rcases List.mem_cons.1 h2 with e | h2
        · exact e.symm
        · have := ha1 y h2; have := hb1 x h1; omega
    subst e
    rw [rising_ext a b ha2 hb2 fun z => ⟨fun hz => by
      rcases List.mem_cons.1 ((h z).1 (by simp [hz])) with e | h1
      · subst e; have := ha1 z hz; omega
      · exact h1, fun hz => by
      rcases List.mem_cons.1 ((h z).2 (by simp [hz])) with e | h1
      · subst e; have := hb1 z hz; omega
      · exact h1⟩]
theorem sort_rising (l : List Int) (h : l.Nodup) : (l.mergeSort fun x y => decide (x ≤ y)).Pairwise (· < ·) := by
  have h1 : (l.mergeSort fun x y => decide (x ≤ y)).Pairwise fun x y => decide (x ≤ y) = true := List.pairwise_mergeSort (fun a b c hab hbc => by simp at *; omega) (fun a b => by simp; omega) l
  have h2 : (l.mergeSort fun x y => decide (x ≤ y)).Nodup := (List.mergeSort_perm l _).nodup_iff.2 h
  refine (List.Pairwise.and h1 h2).imp fun {a b} hab => ?_
  obtain ⟨h3, h4⟩ := hab
  simp at h3
  omega

open Classical in
/-- The reached places, rising. -/
noncomputable def rcList (nx : Nat → List Nat) (n : Nat) : List Int := ((List.range n).filter fun i => decide (Rc nx i)).map fun (i : Nat) => (i : Int)
theorem rcList_mem {nx : Nat → List Nat} {n : Nat} {x : Int} : x ∈ rcList nx n ↔ ∃ i : Nat, x = (i : Int) ∧ i < n ∧ Rc nx i := by
  unfold rcList
  simp only [List.mem_map, List.mem_filter, List.mem_range, decide_eq_true_eq]
  exact ⟨fun ⟨i, h1, h2⟩ => ⟨i, h2.symm, h1⟩, fun ⟨i, h1, h2⟩ => ⟨i, h2, h1.symm⟩⟩
theorem rcList_rising (nx : Nat → List Nat) (n : Nat) : (rcList nx n).Pairwise (· < ·) := by
  unfold rcList
  rw [List.pairwise_map]
  exact (List.Pairwise.filter _ List.pairwise_lt_range).imp fun h => by omega

/-- The program's way: a stack, flags, what was met in the order it was met. -/
structure Dfs (nx : Nat → List Nat) (ok : Nat → Bool) (n : Nat) (m : List Bool) (todo out : List Int) : Prop where
  len : m.length = n
  tr : ∀ x ∈ todo, ∃ i : Nat, x = (i : Int) ∧ i < n ∧ Rc nx i
  nd : out.Nodup
  om : ∀ x, x ∈ out ↔ ∃ i : Nat, x = (i : Int) ∧ m[i]? = some true
  mr : ∀ i : Nat, m[i]? = some true → Rc nx i ∧ ok i = true ∧ ∀ j ∈ nx i, m[j]? = some true ∨ (j : Int) ∈ todo
  z : m[0]? = some true ∨ (0 : Int) ∈ todo
variable {nx : Nat → List Nat} {ok : Nat → Bool} {n : Nat} {m : List Bool} {todo out : List Int}
theorem Dfs.start (h0 : 0 < n) : Dfs nx ok n (List.replicate n false) [0] [] := by
  refine ⟨by simp, fun x hx => ?_, List.nodup_nil, fun x => ?_, fun i hi => ?_, .inr (by simp)⟩
  · simp at hx; subst hx; exact ⟨0, rfl, h0, .zero⟩
  · constructor
    · intro h; cases h
    · rintro ⟨i, _, h⟩
      rw [List.getElem?_replicate] at h
      split at h <;> simp at h
  · rw [List.getElem?_replicate] at hi
    split at hi <;> simp at hi
/-- The top of the stack was met already. -/
theorem Dfs.skip {k : Nat} (D : Dfs nx ok n m (todo ++ [(k : Int)]) out) (hm : m[k]? = some true) : Dfs nx ok n m todo out := by
  refine ⟨D.len, fun x hx => D.tr x (by simp [hx]), D.nd, D.om, fun i hi => ?_, ?_⟩
  · obtain ⟨h1, h2, h3⟩ := D.mr i hi
    refine ⟨h1, h2, fun j hj => ?_⟩
    rcases h3 j hj with h | h
    · exact .inl h
    · rcases List.mem_append.1 h with h | h
      · exact .inr h
      · simp at h; have : j = k := by omega
        subst this; exact .inl hm
  · rcases D.z with h | h
    · exact .inl h
    · rcases List.mem_append.1 h with h | h
      · exact .inr h
      · simp at h; have : k = 0 := by omega
        subst this; exact .inl hm
/-- The top of the stack is met now, and leads on. -/
theorem Dfs.meet {k : Nat} (D : Dfs nx ok n m (todo ++ [(k : Int)]) out) (hk : k < n) (hm : m[k]? = some false) (ho : ok k = true) (hn : ∀ j ∈ nx k, j < n) :
    Dfs nx ok n (m.set k true) (todo ++ (nx k).map fun (j : Nat) => (j : Int)) (out ++ [(k : Int)]) := by
  have hR : Rc nx k := by
    obtain ⟨i, h1, _, h2⟩ := D.tr (k : Int) (by simp)
    have : k = i := by omega
    subst this; exact h2
  have hset : ∀ i : Nat, (m.set k true)[i]? = some true ↔ i = k ∨ m[i]? = some true := fun i => by
    by_cases e : k = i
    · subst e; rw [List.getElem?_set_self (by rw [D.len]; exact hk)]; simp
    · rw [List.getElem?_set_ne e]
      exact ⟨.inr, fun h => h.elim (fun h => absurd h.symm e) id⟩
  refine ⟨by rw [List.length_set]; exact D.len, fun x hx => ?_, ?_, fun x => ?_, fun i hi => ?_, ?_⟩
  · rcases List.mem_append.1 hx with h | h
    · exact D.tr x (by simp [h])
    · obtain ⟨j, hj, rfl⟩ := List.mem_map.1 h
      exact ⟨j, rfl, hn j hj, .step hR hj⟩
  · refine List.nodup_append.2 ⟨D.nd, by simp, fun a ha b hb e => ?_⟩
    simp at hb; subst hb; subst e
    obtain ⟨i, h1, h2⟩ := (D.om _).1 ha
    have : k = i := by omega
    subst this; rw [hm] at h2; simp at h2
  · rw [List.mem_append, D.om x]
    constructor
    · rintro (⟨i, h1, h2⟩ | h)
      · exact ⟨i, h1, (hset i).2 (.inr h2)⟩
      · simp at h; exact ⟨k, h, (hset k).2 (.inl rfl)⟩
    · rintro ⟨i, h1, h2⟩
      rcases (hset i).1 h2 with e | h3
      · subst e; right; simp [h1]
      · exact .inl ⟨i, h1, h3⟩
  · rcases (hset i).1 hi with e | h3
    · subst e
      exact ⟨hR, ho, fun j hj => .inr (List.mem_append.2 (.inr (List.mem_map.2 ⟨j, hj, rfl⟩)))⟩
    · obtain ⟨h1, h2, h4⟩ := D.mr i h3
      refine ⟨h1, h2, fun j hj => ?_⟩
      rcases h4 j hj with h | h
      · exact .inl ((hset j).2 (.inr h))
      · rcases List.mem_append.1 h with h | h
        · exact .inr (List.mem_append.2 (.inl h))
        · simp at h; exact .inl ((hset j).2 (.inl (by omega)))
  · rcases D.z with h | h
    · exact .inl ((hset 0).2 (.inr h))
    · rcases List.mem_append.1 h with h | h
      · exact .inr (List.mem_append.2 (.inl h))
      · simp at h; exact .inl ((hset 0).2 (.inl (by omega)))
theorem Dfs.done (D : Dfs nx ok n m [] out) : (∀ i, Rc nx i → i < n ∧ ok i = true) ∧ (out.mergeSort fun x y => decide (x ≤ y)) = rcList nx n := by
  have hz : m[0]? = some true := by rcases D.z with h | h; exact h; simp at h
  have hall : ∀ i, Rc nx i → m[i]? = some true := fun i h => by
    induction h with
    | zero => exact hz
    | step _ hj ih =>
      rcases (D.mr _ ih).2.2 _ hj with h | h
      · exact h
      · simp at h
  have hlt : ∀ i : Nat, m[i]? = some true → i < n := fun i h => by rw [← D.len]; exact (List.getElem?_eq_some_iff.1 h).1
  refine ⟨fun i h => ⟨hlt i (hall i h), (D.mr i (hall i h)).2.1⟩, rising_ext _ _ (sort_rising _ D.nd) (rcList_rising _ _) fun x => ?_⟩
  rw [(List.mergeSort_perm out _).mem_iff, D.om x, rcList_mem]
  exact ⟨fun ⟨i, h1, h2⟩ => ⟨i, h1, hlt i h2, (D.mr i h2).1⟩, fun ⟨i, h1, _, h2⟩ => ⟨i, h1, hall i h2⟩⟩
/-- How far the stack is from its end: what is not met weighs more than all that it can push. -/
def cntM (m : List Bool) : Nat := m.countP fun b => !b
theorem cntM_set {k : Nat} (h : m[k]? = some false) : cntM (m.set k true) + 1 = cntM m := by
  obtain ⟨hk, e⟩ := List.getElem?_eq_some_iff.1 h
  have e1 : m = m.take k ++ m[k] :: m.drop (k + 1) := by rw [← List.drop_eq_getElem_cons hk, List.take_append_drop]
  have e2 : m.set k true = m.take k ++ true :: m.drop (k + 1) := by rw [List.set_eq_take_append_cons_drop, if_pos hk]
  unfold cntM
  rw [e2]
  conv => rhs; rw [e1]
  rw [List.countP_append, List.countP_append, List.countP_cons, List.countP_cons, e]
  simp
  omega

/-- The reference's way: a list, flags for what is in it, the first k have been looked at. -/
structure Bfs (nx : Nat → List Nat) (ok : Nat → Bool) (n : Nat) (m : List Bool) (l : List Int) (k : Nat) : Prop where
  len : m.length = n
  lm : ∀ x, x ∈ l ↔ ∃ i : Nat, x = (i : Int) ∧ m[i]? = some true
  nd : l.Nodup
  rc : ∀ i : Nat, m[i]? = some true → Rc nx i
  dn : ∀ (t : Nat) x, t < k → l[t]? = some x → ∃ i : Nat, x = (i : Int) ∧ ok i = true ∧ ∀ j ∈ nx i, m[j]? = some true
  z : m[0]? = some true
variable {l : List Int} {k : Nat}
theorem Bfs.start (h0 : 0 < n) : Bfs nx ok n ((List.replicate n false).set 0 true) [0] 0 := by
  have hset : ∀ i : Nat, ((List.replicate n false).set 0 true)[i]? = some true ↔ i = 0 := fun i => by
    by_cases e : 0 = i
    · subst e; rw [List.getElem?_set_self (by simpa using h0)]; simp
    · rw [List.getElem?_set_ne e, List.getElem?_replicate]
      constructor
      · intro h; split at h <;> simp at h
      · intro h; omega
  refine ⟨by simp, fun x => ?_, by simp, fun i h => ?_, fun t x h => by omega, (hset 0).2 rfl⟩
  · constructor
    · intro h; simp at h; exact ⟨0, h, (hset 0).2 rfl⟩
    · rintro ⟨i, h1, h2⟩; have := (hset i).1 h2; subst this; simp [h1]
  · have := (hset i).1 h; subst this; exact .zero
/-- One of the places that the k-th leads to is laid down, if it is new. -/
theorem Bfs.add {j : Nat} (B : Bfs nx ok n m l k) (hj : j < n) (hm : m[j]? = some false) (hR : Rc nx j) (hk : k ≤ l.length) : Bfs nx ok n (m.set j true) (l ++ [(j : Int)]) k := by
  have hset : ∀ i : Nat, (m.set j true)[i]? = some true ↔ i = j ∨ m[i]? = some true := fun i => by
    by_cases e : j = i
    · subst e; rw [List.getElem?_set_self (by rw [B.len]; exact hj)]; simp
    · rw [List.getElem?_set_ne e]
      exact ⟨.inr, fun h => h.elim (fun h => absurd h.symm e) id⟩
  refine ⟨by rw [List.length_set]; exact B.len, fun x => ?_, ?_, fun i h => ?_, fun t x ht hx => ?_, (hset 0).2 (.inr B.z)⟩
  · rw [List.mem_append, B.lm x]
    constructor
    · rintro (⟨i, h1, h2⟩ | h)
      · exact ⟨i, h1, (hset i).2 (.inr h2)⟩
      · simp at h; exact ⟨j, h, (hset j).2 (.inl rfl)⟩
    · rintro ⟨i, h1, h2⟩
      rcases (hset i).1 h2 with e | h3
      · subst e; right; simp [h1]
      · exact .inl ⟨i, h1, h3⟩
  · refine List.nodup_append.2 ⟨B.nd, by simp, fun a ha b hb e => ?_⟩
    simp at hb; subst hb; subst e
    obtain ⟨i, h1, h2⟩ := (B.lm _).1 ha
    have : j = i := by omega
    subst this; rw [hm] at h2; simp at h2
  · rcases (hset i).1 h with e | h3
    · subst e; exact hR
    · exact B.rc i h3
  · rw [List.getElem?_append_left (by omega)] at hx
    obtain ⟨i, h1, h2, h3⟩ := B.dn t x ht hx
    exact ⟨i, h1, h2, fun y hy => (hset y).2 (.inr (h3 y hy))⟩
theorem Bfs.next {i : Nat} (B : Bfs nx ok n m l k) (hx : l[k]? = some (i : Int)) (ho : ok i = true) (hn : ∀ j ∈ nx i, m[j]? = some true) : Bfs nx ok n m l (k + 1) :=
  ⟨B.len, B.lm, B.nd, B.rc, fun t x ht hx' => by
    rcases Nat.lt_or_eq_of_le (Nat.le_of_lt_succ ht) with h | rfl
    · exact B.dn t x h hx'
    · rw [hx] at hx'; obtain rfl := Option.some.inj hx'; exact ⟨i, rfl, ho, hn⟩, B.z⟩
theorem Bfs.done (B : Bfs nx ok n m l k) (hk : k = l.length) : (∀ i, Rc nx i → i < n ∧ ok i = true) ∧ ∀ i : Nat, i < n → (m[i]? = some true ↔ Rc nx i) := by
  have hst : ∀ i : Nat, m[i]? = some true → ok i = true ∧ ∀ j ∈ nx i, m[j]? = some true := fun i h => by
    obtain ⟨t, ht, e⟩ := List.getElem_of_mem ((B.lm (i : Int)).2 ⟨i, rfl, h⟩)
    obtain ⟨i', h1, h2, h3⟩ := B.dn t _ (by omega) (List.getElem?_eq_getElem ht)
    rw [e] at h1
    have : i = i' := by omega
    subst this; exact ⟨h2, h3⟩
  have hall : ∀ i, Rc nx i → m[i]? = some true := fun i h => by
    induction h with
    | zero => exact B.z
    | step _ hj ih => exact (hst _ ih).2 _ hj
  exact ⟨fun i h => ⟨by rw [← B.len]; exact (List.getElem?_eq_some_iff.1 (hall i h)).1, (hst i (hall i h)).1⟩, fun i _ => ⟨B.rc i, hall i⟩⟩
theorem Bfs.le (B : Bfs nx ok n m l k) : l.length ≤ n := pig n l B.nd fun x hx => by
  obtain ⟨i, rfl, h⟩ := (B.lm x).1 hx
  have := (List.getElem?_eq_some_iff.1 h).1
  rw [B.len] at this
  omega
theorem Dfs.le (D : Dfs nx ok n m todo out) : out.length ≤ n := pig n out D.nd fun x hx => by
  obtain ⟨i, rfl, h⟩ := (D.om x).1 hx
  have := (List.getElem?_eq_some_iff.1 h).1
  rw [D.len] at this
  omega

end Go.Proofs.YtfobkbjabenkkaaGreat
