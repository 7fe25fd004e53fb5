/- What one comes to in a heap: the walk by an order of places (copied), and the marks (l11Marks). No program is named here. -/
import Derived.Test.YtajbgkpjmgmdhaaTypes
namespace Go.Proofs.Ytajbgkpjmgmdhaa
open Go.RowKit
set_option linter.unusedVariables false
set_option linter.unusedSimpArgs false

def IsCell (n : Nat) (v : GVal) : Prop := v.kind = 6 → ∃ k : Nat, v.n = (k : Int) ∧ k < n
structure HeapIn (h : List GCell) (roots : List GVal) : Prop where
  roots : ∀ v ∈ roots, IsCell h.length v
  cells : ∀ c ∈ h, IsCell h.length c.a ∧ IsCell h.length c.b

inductive Rch (h : List GCell) (roots : List GVal) : Nat → Prop
  | root {v : GVal} {k : Nat} : v ∈ roots → v.kind = 6 → v.n = (k : Int) → Rch h roots k
  | left {j k : Nat} {c : GCell} : Rch h roots j → h[j]? = some c → c.a.kind = 6 → c.a.n = (k : Int) → Rch h roots k
  | right {j k : Nat} {c : GCell} : Rch h roots j → h[j]? = some c → c.b.kind = 6 → c.b.n = (k : Int) → Rch h roots k

abbrev BfsS := List Int × List Int
def meetP (s : BfsS) (v : GVal) : BfsS := if v.kind = 6 ∧ s.2.getD v.n.toNat 0 < 0 then (s.1 ++ [v.n], s.2.set v.n.toNat (s.1.length : Int)) else s
def bfsP (h : List GCell) : Nat → Nat → BfsS → BfsS
  | 0, _, s => s
  | f + 1, k, s => match s.1[k]? with
    | none => s
    | some x => match h[x.toNat]? with
      | none => s
      | some c => bfsP h f (k + 1) (meetP (meetP s c.a) c.b)
def startP (n : Nat) (roots : List GVal) : BfsS := roots.foldl meetP ([], List.replicate n (-1))
def copiedP (h : List GCell) (roots : List GVal) : BfsS := bfsP h (h.length + 1) 0 (startP h.length roots)

structure BInv (n : Nat) (P : Nat → Prop) (s : BfsS) : Prop where
  len : s.2.length = n
  at_ : ∀ (i : Nat) x, s.2[i]? = some x → (x < 0 ∧ (i : Int) ∉ s.1) ∨ (0 ≤ x ∧ s.1[x.toNat]? = some (i : Int))
  ord : ∀ x ∈ s.1, ∃ j : Nat, x = j ∧ j < n ∧ P j
  cnt : s.2.countP (fun x => decide (0 ≤ x)) = s.1.length
theorem BInv.le {n : Nat} {P : Nat → Prop} {s : BfsS} (h : BInv n P s) : s.1.length ≤ n := by rw [← h.cnt, ← h.len]; exact List.countP_le_length
theorem BInv.start (n : Nat) (P : Nat → Prop) : BInv n P ([], List.replicate n (-1)) := by
  refine ⟨by simp, fun i x hx => .inl ⟨?_, by simp⟩, fun x h => by simp at h, by simp [List.countP_replicate]⟩
  have := List.mem_of_getElem? hx
  simp at this
  omega
theorem meetP_old {s : BfsS} {v : GVal} {i : Nat} {x : Int} (h : s.1[i]? = some x) : (meetP s v).1[i]? = some x := by
  unfold meetP
  split
  · rw [List.getElem?_append_left (List.getElem?_eq_some_iff.1 h).1]; exact h
  · exact h
theorem meetP_mem {s : BfsS} {v : GVal} {x : Int} (h : x ∈ s.1) : x ∈ (meetP s v).1 := by
  obtain ⟨i, hi, rfl⟩ := List.getElem_of_mem h
  exact List.mem_of_getElem? (meetP_old (List.getElem?_eq_getElem hi))
theorem BInv.meet {n : Nat} {P : Nat → Prop} {s : BfsS} (h : BInv n P s) {v : GVal} (hv : v.kind = 6 → ∃ k : Nat, v.n = (k : Int) ∧ k < n ∧ P k) : BInv n P (meetP s v) ∧ (v.kind = 6 → v.n ∈ (meetP s v).1) := by
  by_cases h6 : v.kind = 6
  · obtain ⟨k, hk, hkn, hP⟩ := hv h6
    have hkl : k < s.2.length := by rw [h.len]; exact hkn
    have hx := List.getElem?_eq_getElem hkl
    have hg : s.2.getD v.n.toNat 0 = s.2[k] := by rw [hk, Int.toNat_natCast, List.getD_eq_getElem?_getD, hx]; rfl
    by_cases hneg : s.2[k] < 0
    · have e : meetP s v = (s.1 ++ [(k : Int)], s.2.set k (s.1.length : Int)) := by unfold meetP; rw [if_pos ⟨h6, by rw [hg]; exact hneg⟩, hk, Int.toNat_natCast]
      have hnot : (k : Int) ∉ s.1 := by
        rcases h.at_ k _ hx with ⟨_, h2⟩ | ⟨h2, _⟩
        · exact h2
        · omega
      rw [e]
      refine ⟨⟨by simp [h.len], fun i x hi => ?_, fun x hx => ?_, ?_⟩, fun _ => by rw [hk]; simp⟩
      · by_cases hik : k = i
        · subst hik
          simp [hkl] at hi
          subst hi
          refine .inr ⟨by omega, ?_⟩
          simp
        · rw [List.getElem?_set_ne hik] at hi
          rcases h.at_ i x hi with ⟨h1, h2⟩ | ⟨h1, h2⟩
          · refine .inl ⟨h1, ?_⟩
            simp only [List.mem_append, List.mem_singleton]
            rintro (h3 | h3)
            · exact h2 h3
            · omega
          · exact .inr ⟨h1, by rw [List.getElem?_append_left (List.getElem?_eq_some_iff.1 h2).1]; exact h2⟩
      · rcases List.mem_append.1 hx with h1 | h1
        · exact h.ord x h1
        · simp at h1; exact ⟨k, h1, hkn, hP⟩
      · have hc := h.cnt
        rw [List.countP_set hkl]
        rw [if_neg (by simp; omega), if_pos (by simp)]
        simp [hc]
    · have e : meetP s v = s := by unfold meetP; rw [if_neg (by rw [hg]; exact fun ⟨_, h⟩ => hneg h)]
      rw [e]
      refine ⟨h, fun _ => ?_⟩
      rcases h.at_ k _ hx with ⟨h1, _⟩ | ⟨_, h2⟩
      · exact absurd h1 hneg
      · rw [hk]; exact List.mem_of_getElem? h2
  · have e : meetP s v = s := by unfold meetP; rw [if_neg (fun ⟨h, _⟩ => h6 h)]
    rw [e]
    exact ⟨h, fun h => absurd h h6⟩

/-- The children of the first k places of the order are in the order. -/
def Cl (h : List GCell) (k : Nat) (s : BfsS) : Prop := ∀ (i : Nat) x c, i < k → s.1[i]? = some x → h[x.toNat]? = some c → (c.a.kind = 6 → c.a.n ∈ s.1) ∧ (c.b.kind = 6 → c.b.n ∈ s.1)
/-- The roots' loop, behind k of them. -/
structure RLoop (h : List GCell) (roots : List GVal) (k : Nat) (s : BfsS) : Prop where
  inv : BInv h.length (Rch h roots) s
  met : ∀ v ∈ roots.take k, v.kind = 6 → v.n ∈ s.1
  eq : s = (roots.take k).foldl meetP ([], List.replicate h.length (-1))
theorem RLoop.zero (h : List GCell) (roots : List GVal) : RLoop h roots 0 ([], List.replicate h.length (-1)) := ⟨BInv.start _ _, fun v hv => by simp at hv, by simp⟩
theorem RLoop.step {h : List GCell} {roots : List GVal} {k : Nat} {s : BfsS} (H : HeapIn h roots) (L : RLoop h roots k s) {v : GVal} (hv : roots[k]? = some v) : RLoop h roots (k + 1) (meetP s v) := by
  have hm := List.mem_of_getElem? hv
  have hb := L.inv.meet (v := v) fun h6 => by
    obtain ⟨j, h1, h2⟩ := H.roots v hm h6
    exact ⟨j, h1, h2, .root hm h6 h1⟩
  refine ⟨hb.1, fun u hu h6 => ?_, ?_⟩
  · rw [take_snoc' hv] at hu
    rcases List.mem_append.1 hu with h1 | h1
    · exact meetP_mem (L.met u h1 h6)
    · simp at h1; subst h1; exact hb.2 h6
  · rw [take_snoc' hv, List.foldl_append, ← L.eq]; rfl
/-- The loop over the order, behind k of it. -/
structure BLoop (h : List GCell) (roots : List GVal) (k : Nat) (s : BfsS) : Prop where
  inv : BInv h.length (Rch h roots) s
  met : ∀ v ∈ roots, v.kind = 6 → v.n ∈ s.1
  cl : Cl h k s
  le : k ≤ s.1.length
  eq : bfsP h (h.length + 1 - k) k s = copiedP h roots
theorem RLoop.done {h : List GCell} {roots : List GVal} {k : Nat} {s : BfsS} (L : RLoop h roots k s) (hk : k = roots.length) : BLoop h roots 0 s := by
  subst hk
  refine ⟨L.inv, fun v hv => L.met v (by rwa [List.take_length]), fun i x c hi => by omega, by omega, ?_⟩
  rw [L.eq, List.take_length]; rfl
theorem BLoop.get {h : List GCell} {roots : List GVal} {k : Nat} {s : BfsS} (L : BLoop h roots k s) (hk : k < s.1.length) : ∃ (j : Nat) (c : GCell), s.1[k]? = some (j : Int) ∧ j < h.length ∧ h[j]? = some c ∧ Rch h roots j := by
  have h1 := List.getElem?_eq_getElem hk
  obtain ⟨j, e, h2, h3⟩ := L.inv.ord _ (List.getElem_mem hk)
  exact ⟨j, h[j], by rw [h1, e], h2, List.getElem?_eq_getElem h2, h3⟩
theorem BLoop.step {h : List GCell} {roots : List GVal} {k : Nat} {s : BfsS} (H : HeapIn h roots) (L : BLoop h roots k s) {j : Nat} {c : GCell} (hk : s.1[k]? = some (j : Int)) (hc : h[j]? = some c) (hR : Rch h roots j) : BLoop h roots (k + 1) (meetP (meetP s c.a) c.b) := by
  have hcm := H.cells c (List.mem_of_getElem? hc)
  have h1 := L.inv.meet (v := c.a) fun h6 => by
    obtain ⟨i, e1, e2⟩ := hcm.1 h6
    exact ⟨i, e1, e2, .left hR hc h6 e1⟩
  have h2 := h1.1.meet (v := c.b) fun h6 => by
    obtain ⟨i, e1, e2⟩ := hcm.2 h6
    exact ⟨i, e1, e2, .right hR hc h6 e1⟩
  have hkl := (List.getElem?_eq_some_iff.1 hk).1
  have hold : ∀ {i : Nat} {x : Int}, s.1[i]? = some x → (meetP (meetP s c.a) c.b).1[i]? = some x := fun h => meetP_old (meetP_old h)
  refine ⟨h2.1, fun v hv h6 => meetP_mem (meetP_mem (L.met v hv h6)), fun i x c' hi hx hc' => ?_, ?_, ?_⟩
  · have hil : i < s.1.length := by omega
    have hx0 := List.getElem?_eq_getElem hil
    have ex : x = s.1[i] := by have := hold hx0; rw [hx] at this; exact Option.some.inj this
    rcases Nat.lt_or_ge i k with h' | h'
    · have := L.cl i x c' h' (by rw [ex]; exact hx0) hc'
      exact ⟨fun h => meetP_mem (meetP_mem (this.1 h)), fun h => meetP_mem (meetP_mem (this.2 h))⟩
    · obtain rfl : i = k := by omega
      have e2 : x = (j : Int) := by rw [ex]; rw [hx0] at hk; exact Option.some.inj hk
      subst e2
      rw [Int.toNat_natCast, hc] at hc'
      obtain rfl := Option.some.inj hc'
      exact ⟨fun h => meetP_mem (h1.2 h), fun h => h2.2 h⟩
  · have := (List.getElem?_eq_some_iff.1 (hold hk)).1; omega
  · have hle := L.inv.le
    rw [← L.eq, show h.length + 1 - k = (h.length + 1 - (k + 1)) + 1 by omega]
    conv => rhs; unfold bfsP
    rw [hk]
    simp only [Int.toNat_natCast, hc]
theorem BLoop.done {h : List GCell} {roots : List GVal} {k : Nat} {s : BfsS} (L : BLoop h roots k s) (hk : k = s.1.length) : s = copiedP h roots := by
  rw [← L.eq]
  have : s.1[k]? = none := List.getElem?_eq_none (by omega)
  cases h.length + 1 - k with
  | zero => rfl
  | succ f => unfold bfsP; rw [this]
theorem BLoop.live {h : List GCell} {roots : List GVal} {k : Nat} {s : BfsS} (H : HeapIn h roots) (L : BLoop h roots k s) (hk : k = s.1.length) {i : Nat} {x : Int} (hx : s.2[i]? = some x) : 0 ≤ x ↔ Rch h roots i := by
  have hall : ∀ j, Rch h roots j → (j : Int) ∈ s.1 := fun j hj => by
    induction hj with
    | root h1 h2 h3 => rw [← h3]; exact L.met _ h1 h2
    | left h1 h2 h3 h4 ih =>
      obtain ⟨m, hm, e⟩ := List.getElem_of_mem ih
      rw [← h4]; exact (L.cl m _ _ (by omega) (by rw [List.getElem?_eq_getElem hm, e]) (by rw [Int.toNat_natCast]; exact h2)).1 h3
    | right h1 h2 h3 h4 ih =>
      obtain ⟨m, hm, e⟩ := List.getElem_of_mem ih
      rw [← h4]; exact (L.cl m _ _ (by omega) (by rw [List.getElem?_eq_getElem hm, e]) (by rw [Int.toNat_natCast]; exact h2)).2 h3
  constructor
  · intro h0
    rcases L.inv.at_ i x hx with ⟨h1, _⟩ | ⟨_, h1⟩
    · omega
    · obtain ⟨j, e, _, hR⟩ := L.inv.ord _ (List.mem_of_getElem? h1)
      obtain rfl : i = j := by omega
      exact hR
  · intro hR
    rcases L.inv.at_ i x hx with ⟨_, h1⟩ | ⟨h0, _⟩
    · exact absurd (hall i hR) h1
    · exact h0

/-! ### The marks -/
/-- Behind the roots' loop up to k. -/
structure MInv (h : List GCell) (roots : List GVal) (k : Nat) (m : List Bool) : Prop where
  len : m.length = h.length
  rch : ∀ i, m[i]? = some true → Rch h roots i
  met : ∀ v ∈ roots.take k, v.kind = 6 → ∀ i : Nat, v.n = (i : Int) → m[i]? = some true
/-- Marks only grow. -/
theorem mark_mono {m : List Bool} {j i : Nat} (h : m[i]? = some true) : (m.set j true)[i]? = some true := by
  by_cases e : j = i
  · subst e
    rw [List.getElem?_set_self (List.getElem?_eq_some_iff.1 h).1]
  · rw [List.getElem?_set_ne e]; exact h
theorem MInv.zero (h : List GCell) (roots : List GVal) : MInv h roots 0 (List.replicate h.length false) := by
  refine ⟨by simp, fun i hi => ?_, fun v hv => by simp at hv⟩
  have := List.mem_of_getElem? hi
  simp at this
theorem MInv.mark {h : List GCell} {roots : List GVal} {k j : Nat} {m : List Bool} (M : MInv h roots k m) (hR : Rch h roots j) : MInv h roots k (m.set j true) := by
  refine ⟨by simp [M.len], fun i hi => ?_, fun v hv h6 i e => mark_mono (M.met v hv h6 i e)⟩
  by_cases e : j = i
  · subst e; exact hR
  · rw [List.getElem?_set_ne e] at hi; exact M.rch i hi
theorem MInv.root {h : List GCell} {roots : List GVal} {k j : Nat} {m : List Bool} (M : MInv h roots k m) {v : GVal} (hv : roots[k]? = some v) (h6 : v.kind = 6) (hj : v.n = (j : Int)) (hjn : j < h.length) : MInv h roots (k + 1) (m.set j true) := by
  have M' := M.mark (.root (List.mem_of_getElem? hv) h6 hj)
  refine ⟨M'.len, M'.rch, fun u hu h6' i e => ?_⟩
  rw [take_snoc' hv] at hu
  rcases List.mem_append.1 hu with h1 | h1
  · exact M'.met u h1 h6' i e
  · simp at h1; subst h1
    obtain rfl : i = j := by omega
    rw [List.getElem?_set_self (by rw [M.len]; exact hjn)]
theorem MInv.skip {h : List GCell} {roots : List GVal} {k : Nat} {m : List Bool} (M : MInv h roots k m) {v : GVal} (hv : roots[k]? = some v) (h6 : ¬ v.kind = 6) : MInv h roots (k + 1) m := by
  refine ⟨M.len, M.rch, fun u hu h6' i e => ?_⟩
  rw [take_snoc' hv] at hu
  rcases List.mem_append.1 hu with h1 | h1
  · exact M.met u h1 h6' i e
  · simp at h1; subst h1; exact absurd h6' h6
def cntF (m : List Bool) : Nat := m.countP (fun b => !b)
theorem cntF_set {m : List Bool} {j : Nat} (h : m[j]? = some false) : cntF (m.set j true) + 1 = cntF m := by
  have hl := (List.getElem?_eq_some_iff.1 h).1
  have e := (List.getElem?_eq_some_iff.1 h).2
  unfold cntF
  have hp : 0 < m.countP (fun b => !b) := List.countP_pos_iff.2 ⟨m[j], List.getElem_mem hl, by rw [e]; rfl⟩
  rw [List.countP_set hl, if_pos (by rw [e]; rfl), if_neg (by decide)]
  omega
/-- The children of cell i are marked. -/
def KidsIn (h : List GCell) (m : List Bool) (i : Nat) : Prop := ∀ c, h[i]? = some c → (c.a.kind = 6 → ∀ j : Nat, c.a.n = (j : Int) → m[j]? = some true) ∧ (c.b.kind = 6 → ∀ j : Nat, c.b.n = (j : Int) → m[j]? = some true)
/-- Within a pass, behind k cells; c0 unmarked at its start. -/
structure Pass (h : List GCell) (roots : List GVal) (c0 k : Nat) (again : Bool) (m : List Bool) : Prop where
  inv : MInv h roots roots.length m
  le : cntF m ≤ c0
  lt : again = true → cntF m < c0
  cl : again = false → ∀ i, i < k → m[i]? = some true → KidsIn h m i
theorem MInv.live {h : List GCell} {roots : List GVal} {m : List Bool} (M : MInv h roots roots.length m) (hcl : ∀ i, i < h.length → m[i]? = some true → KidsIn h m i) {i : Nat} {x : Bool} (hx : m[i]? = some x) : x = true ↔ Rch h roots i := by
  have hall : ∀ j, Rch h roots j → m[j]? = some true := fun j hj => by
    induction hj with
    | root h1 h2 h3 => exact M.met _ (by rw [List.take_length]; exact h1) h2 _ h3
    | left h1 h2 h3 h4 ih => exact (hcl _ (List.getElem?_eq_some_iff.1 h2).1 ih _ h2).1 h3 _ h4
    | right h1 h2 h3 h4 ih => exact (hcl _ (List.getElem?_eq_some_iff.1 h2).1 ih _ h2).2 h3 _ h4
  constructor
  · rintro rfl; exact M.rch i hx
  · intro hR; have := hall i hR; rw [hx] at this; exact Option.some.inj this
theorem Pass.zero {h : List GCell} {roots : List GVal} {m : List Bool} (M : MInv h roots roots.length m) : Pass h roots (cntF m) 0 false m := ⟨M, Nat.le_refl _, (fun h => by cases h), fun _ i hi => absurd hi (by omega)⟩
theorem Pass.unmarked {h : List GCell} {roots : List GVal} {c0 k : Nat} {again : Bool} {m : List Bool} (P : Pass h roots c0 k again m) (hm : m[k]? = some false) : Pass h roots c0 (k + 1) again m :=
  ⟨P.inv, P.le, P.lt, fun ha i hi hmi => by
    rcases Nat.lt_or_ge i k with h' | h'
    · exact P.cl ha i h' hmi
    · obtain rfl : i = k := by omega
      rw [hm] at hmi; cases hmi⟩
theorem Pass.mark {h : List GCell} {roots : List GVal} {c0 k j : Nat} {again : Bool} {m : List Bool} (P : Pass h roots c0 k again m) (hm : m[j]? = some false) (hR : Rch h roots j) : Pass h roots c0 k true (m.set j true) := by
  have := cntF_set hm
  have := P.le
  exact ⟨P.inv.mark hR, by omega, fun _ => by omega, fun ha => by cases ha⟩
theorem Pass.next {h : List GCell} {roots : List GVal} {c0 k : Nat} {again : Bool} {m : List Bool} (P : Pass h roots c0 k again m) (hK : KidsIn h m k) : Pass h roots c0 (k + 1) again m :=
  ⟨P.inv, P.le, P.lt, fun ha i hi hmi => by
    rcases Nat.lt_or_ge i k with h' | h'
    · exact P.cl ha i h' hmi
    · obtain rfl : i = k := by omega
      exact hK⟩

end Go.Proofs.Ytajbgkpjmgmdhaa
