/- Of two right values exactly one comes first where their texts differ: plain law. -/
import Derived.Test.YtpblhonnknmjjaaLtLaw
import Derived.Test.YtpblhonnknmjjaaRead2
namespace Go.Proofs.Ytpblhonnknmjjaa
open Go.RowKit
set_option linter.unusedVariables false
set_option linter.unusedSimpArgs false

theorem nodeCmp_none {x y : GDNode} : nodeCmp x y = none ↔ x.kind = y.kind ∧ x.n = y.n ∧ x.s = y.s ∧ x.kids.length = y.kids.length := by
  unfold nodeCmp
  constructor
  · intro h
    split at h
    · cases h
    · rename_i h1
      split at h
      · cases h
      · rename_i h2
        split at h
        · cases h
        · rename_i h3
          split at h
          · cases h
          · rename_i h4
            simp at h1 h2 h3 h4
            exact ⟨h1, h2, (toList_eq _ _).1 h3, by omega⟩
  · rintro ⟨h1, h2, h3, h4⟩
    rw [h1, h2, h3, h4]
    simp
theorem alike_at : ∀ {a b : List GDNode}, Alike a b → ∀ (i : Nat) x y, a[i]? = some x → b[i]? = some y → nodeCmp x y = none
  | [], b, _, i, x, y, h, _ => by simp at h
  | x0 :: a, [], _, i, x, y, _, h => by simp at h
  | x0 :: a, y0 :: b, h, 0, x, y, hx, hy => by
    obtain rfl : x0 = x := by simpa using hx
    obtain rfl : y0 = y := by simpa using hy
    exact h.1
  | x0 :: a, y0 :: b, h, i + 1, x, y, hx, hy => alike_at h.2 i x y (by simpa using hx) (by simpa using hy)
/-- Alike lists end alike and are the same tree. -/
theorem kidsEnd_alike {E E' : Nat → Int} {P : Int → Int → Prop} : ∀ (ks ks' : List Int) (nx : Int), ks.length = ks'.length → 0 ≤ nx → (∀ k, 0 ≤ E k → 0 ≤ E' k → E k = E' k ∧ P k k) → 0 ≤ kidsEnd E nx ks → 0 ≤ kidsEnd E' nx ks' →
    ks = ks' ∧ kidsEnd E nx ks = kidsEnd E' nx ks' ∧ ∀ k ∈ ks, P k k ∧ 0 ≤ k
  | [], [], nx, _, _, _, _, _ => ⟨rfl, rfl, fun k h => by simp at h⟩
  | [], _ :: _, _, h, _, _, _, _ => by simp at h
  | _ :: _, [], _, h, _, _, _, _ => by simp at h
  | k :: ks, k' :: ks', nx, hl, h0, hE, h1, h2 => by
    unfold kidsEnd at h1 h2 ⊢
    split at h1
    · omega
    · split at h1
      · omega
      · split at h2
        · omega
        · split at h2
          · omega
          · rename_i h3 h4 h5 h6
            have e1 : k = nx := by omega
            have e2 : k' = nx := by omega
            subst e1
            obtain rfl : k' = k := e2
            obtain ⟨e3, hP⟩ := hE k'.toNat (by omega) (by omega)
            rw [if_neg h3, if_neg h4, if_neg h5, if_neg h6]
            rw [← e3] at h2 ⊢
            obtain ⟨e4, e5, e6⟩ := kidsEnd_alike ks ks' (E k'.toNat) (by simpa using hl) (by omega) hE h1 h2
            refine ⟨by rw [e4], e5, fun k hk => ?_⟩
            rcases List.mem_cons.1 hk with rfl | hk
            · rw [Int.toNat_of_nonneg h0] at hP; exact ⟨hP, h0⟩
            · exact e6 k hk
theorem alike_tree {a b : List GDNode} (hA : ∀ (i : Nat) x y, a[i]? = some x → b[i]? = some y → nodeCmp x y = none) : ∀ (F G i : Nat), 0 ≤ ends a F i → 0 ≤ ends b G i → ends a F i = ends b G i ∧ ∀ f, treeOf a f i = treeOf b f i
  | 0, G, i, h, _ => by simp [ends] at h
  | F + 1, 0, i, _, h => by simp [ends] at h
  | F + 1, G + 1, i, h1, h2 => by
    unfold ends at h1 h2 ⊢
    cases hx : a[i]? with
    | none => rw [hx] at h1; simp at h1
    | some x =>
      cases hy : b[i]? with
      | none => rw [hy] at h2; simp at h2
      | some y =>
        rw [hx] at h1; rw [hy] at h2
        obtain ⟨e1, e2, e3, e4⟩ := nodeCmp_none.1 (hA i x y hx hy)
        obtain ⟨e5, e6, e7⟩ := kidsEnd_alike (P := fun k _ => ∀ f, treeOf a f k.toNat = treeOf b f k.toNat) x.kids y.kids (i + 1) e4 (by omega) (fun k h3 h4 => by
          obtain ⟨e8, e9⟩ := alike_tree hA F G k h3 h4
          exact ⟨e8, by rw [Int.toNat_natCast]; exact e9⟩) h1 h2
        refine ⟨e6, fun f => ?_⟩
        cases f with
        | zero => rfl
        | succ f =>
          rw [treeOf_some hx, treeOf_some hy, e1, e2, e3, ← e5]
          congr 1
          exact List.map_congr_left fun k hk => (e7 k hk).1 f

def sigD (x : GDNode) : Int × Int × ByteArray × Nat := (x.kind, x.n, x.s, x.kids.length)
def flatT : Nat → PxT → List (Int × Int × ByteArray × Nat)
  | 0, _ => []
  | f + 1, t => (t.kind, t.n, t.s, t.kids.length) :: (t.kids.flatMap (flatT f))
theorem kidsEnd_flat {E : Nat → Int} {L : Int} {l : List GDNode} {g : Int → List (Int × Int × ByteArray × Nat)} (hE : ∀ k, 0 ≤ E k → (k : Int) + 1 ≤ E k ∧ E k ≤ L) (hg : ∀ k : Nat, 0 ≤ E k → g k = ((l.take (E k).toNat).drop k).map sigD) :
    ∀ (ks : List Int) (nx : Int), 0 ≤ nx → 0 ≤ kidsEnd E nx ks → nx ≤ kidsEnd E nx ks ∧ ks.flatMap g = ((l.take (kidsEnd E nx ks).toNat).drop nx.toNat).map sigD
  | [], nx, h0, h => by
    unfold kidsEnd
    refine ⟨Int.le_refl _, ?_⟩
    rw [List.drop_of_length_le (by rw [List.length_take]; omega)]
    rfl
  | k :: ks, nx, h0, h => by
    unfold kidsEnd at h ⊢
    split at h
    · omega
    · split at h
      · omega
      · rename_i h1 h2
        have e : k = nx := by omega
        subst e
        have h3 := hE k.toNat (by omega)
        obtain ⟨h4, h5⟩ := kidsEnd_flat hE hg ks (E k.toNat) (by omega) h
        rw [if_neg h1, if_neg h2]
        refine ⟨by omega, ?_⟩
        have h6 := hg k.toNat (by omega)
        rw [Int.toNat_of_nonneg h0] at h6
        rw [List.flatMap_cons, h5, h6, ← List.map_append]
        congr 1
        have e1 : (l.take (E k.toNat).toNat) = (l.take (kidsEnd E (E k.toNat) ks).toNat).take (E k.toNat).toNat := by rw [List.take_take, Nat.min_eq_left (by omega)]
        rw [e1]
        generalize l.take (kidsEnd E (E k.toNat) ks).toNat = q
        have e2 : q.drop k.toNat = (q.take (E k.toNat).toNat ++ q.drop (E k.toNat).toNat).drop k.toNat := by rw [List.take_append_drop]
        by_cases hq : (E k.toNat).toNat ≤ q.length
        · rw [e2, List.drop_append_of_le_length (by rw [List.length_take]; omega)]
        · rw [List.take_of_length_le (by omega), List.drop_of_length_le (l := q) (i := (E k.toNat).toNat) (by omega), List.append_nil]
theorem flat_tree (l : List GDNode) (hU : Up l) : ∀ (F f g i : Nat), 0 ≤ ends l F i → l.length ≤ i + f → l.length ≤ i + g → flatT g (treeOf l f i) = ((l.take (ends l F i).toNat).drop i).map sigD
  | 0, f, g, i, h, _, _ => by simp [ends] at h
  | F + 1, f, g, i, h, hf, hg => by
    have hr := ends_range l (F + 1) i h
    unfold ends at h hr ⊢
    cases hx : l[i]? with
    | none => rw [hx] at h; simp at h
    | some x =>
      rw [hx] at h hr
      dsimp only at h hr ⊢
      have hi := (List.getElem?_eq_some_iff.1 hx).1
      have hup := hU i x hx
      match f, hf with
      | 0, hf => omega
      | f + 1, hf =>
        match g, hg with
        | 0, hg => omega
        | g + 1, hg =>
          rw [treeOf_some hx]
          show (x.kind, x.n, x.s, (x.kids.map fun k => treeOf l f k.toNat).length) :: ((x.kids.map fun k => treeOf l f k.toNat).flatMap (flatT g)) = _
          have e0 : (x.kids.map fun k => treeOf l f k.toNat).flatMap (flatT g) = x.kids.flatMap fun k => flatT g (treeOf l f k.toNat) := by rw [List.flatMap_map]
          obtain ⟨_, h5⟩ := kidsEnd_flat (E := ends l F) (L := l.length) (l := l) (g := fun k => if (i : Int) < k ∧ k < l.length then flatT g (treeOf l f k.toNat) else ((l.take (ends l F k.toNat).toNat).drop k.toNat).map sigD) (ends_range l F) (fun k hk => by
            (try dsimp only)
            split
            · rename_i hc
              rw [Int.toNat_natCast]
              exact flat_tree l hU F f g k hk (by omega) (by omega)
            · rw [Int.toNat_natCast]) x.kids (i + 1) (by omega) h
          have e1 : (x.kids.flatMap fun k => flatT g (treeOf l f k.toNat)) = x.kids.flatMap fun k => if (i : Int) < k ∧ k < l.length then flatT g (treeOf l f k.toNat) else ((l.take (ends l F k.toNat).toNat).drop k.toNat).map sigD := by
            rw [List.flatMap_def, List.flatMap_def]
            congr 1
            exact List.map_congr_left fun k hk => by rw [if_pos (hup k hk)]
          rw [e0, e1, h5, List.length_map, show ((i : Int) + 1).toNat = i + 1 by omega]
          rw [List.drop_eq_getElem_cons (i := i) (by rw [List.length_take]; omega)]
          have e2 : (l.take (kidsEnd (ends l F) (↑i + 1) x.kids).toNat)[i]'(by rw [List.length_take]; omega) = x := by
            rw [List.getElem_take]
            exact (List.getElem?_eq_some_iff.1 hx).2
          rw [e2]
          rfl
theorem data_flat {d : GData} (h : dataOk d = true) (g : Nat) (hg : d.nodes.length ≤ g) : flatT g (treeOf d.nodes d.nodes.length 0) = d.nodes.map sigD := by
  obtain ⟨hU, h0, hL⟩ := dataOk_up h
  have he : ends d.nodes (d.nodes.length + 1) 0 = d.nodes.length := by
    unfold dataOk at h
    simp only [Bool.and_eq_true, decide_eq_true_eq] at h
    rw [show kidsAt d.nodes = (fun i => (d.nodes[i]?.map (·.kids)).getD []) from rfl, ← ends_eq] at h
    exact h.2.1
  have := flat_tree d.nodes hU (d.nodes.length + 1) d.nodes.length g 0 (by rw [he]; omega) (by omega) (by omega)
  rw [this, he, Int.toNat_natCast, List.take_length, List.drop_zero]
theorem alike_of_sig : ∀ {a b : List GDNode}, a.map sigD = b.map sigD → Alike a b
  | [], [], _ => trivial
  | [], _ :: _, h => by simp at h
  | _ :: _, [], h => by simp at h
  | x :: a, y :: b, h => by
    simp only [List.map_cons, List.cons.injEq] at h
    refine ⟨nodeCmp_none.2 ?_, alike_of_sig h.2⟩
    have := h.1
    unfold sigD at this
    simp only [Prod.mk.injEq] at this
    exact this
theorem text_alike {a b : GData} (ha : dataOk a = true) (hb : dataOk b = true) : dataText a = dataText b ↔ Alike a.nodes b.nodes := by
  have ra := data_right ha
  have rb := data_right hb
  obtain ⟨hUa, _, _⟩ := dataOk_up ha
  obtain ⟨hUb, _, _⟩ := dataOk_up hb
  have hea : ends a.nodes (a.nodes.length + 1) 0 = a.nodes.length := by
    have h := ha
    unfold dataOk at h
    simp only [Bool.and_eq_true, decide_eq_true_eq] at h
    rw [show kidsAt a.nodes = (fun i => (a.nodes[i]?.map (·.kids)).getD []) from rfl, ← ends_eq] at h
    exact h.2.1
  have heb : ends b.nodes (b.nodes.length + 1) 0 = b.nodes.length := by
    have h := hb
    unfold dataOk at h
    simp only [Bool.and_eq_true, decide_eq_true_eq] at h
    rw [show kidsAt b.nodes = (fun i => (b.nodes[i]?.map (·.kids)).getD []) from rfl, ← ends_eq] at h
    exact h.2.1
  constructor
  · intro h
    rw [h] at ra
    have ht := ra.inj rb
    have fa := data_flat ha (a.nodes.length + b.nodes.length) (by omega)
    have fb := data_flat hb (a.nodes.length + b.nodes.length) (by omega)
    rw [ht, fb] at fa
    exact alike_of_sig fa.symm
  · intro h
    obtain ⟨e1, e2⟩ := alike_tree (alike_at h) (a.nodes.length + 1) (b.nodes.length + 1) 0 (by omega) (by omega)
    have el : a.nodes.length = b.nodes.length := by omega
    unfold dataText
    rw [if_pos ha, if_pos hb, el, e2]
/-- The law: just one of two right values comes first if and only if their texts differ. -/
theorem less_law {a b : GData} (ha : dataOk a = true) (hb : dataOk b = true) :
    ((dataText a = dataText b) ∧ dataLess a b = false ∧ dataLess b a = false) ∨ ((dataText a ≠ dataText b) ∧ dataLess b a = !dataLess a b) := by
  have h1 := text_alike ha hb
  unfold dataLess
  rw [ha, hb]
  simp only [Bool.true_and]
  rcases lessL_ways a.nodes b.nodes with ⟨h2, h3, h4⟩ | ⟨h2, h3⟩
  · exact .inl ⟨h1.2 h2, h3, h4⟩
  · exact .inr ⟨fun h => h2 (h1.1 h), h3⟩
end Go.Proofs.Ytpblhonnknmjjaa
