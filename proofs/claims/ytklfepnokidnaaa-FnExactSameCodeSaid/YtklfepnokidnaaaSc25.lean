/- Parts of the proof, merged: Text6. -/
import Derived.Test.YtklfepnokidnaaaSc24
/- The tree of a right value: its shape, and how long its text may be. -/
namespace Go.Proofs.Ytklfepnokidnaaa
open Go.RowKit
set_option linter.unusedVariables false
set_option linter.unusedSimpArgs false

theorem dataOk_nodes {d : GData} (h : dataOk d = true) : ∀ (j : Nat) x, d.nodes[j]? = some x → nodeOk d.nodes x = true := by
  unfold dataOk at h
  simp only [Bool.and_eq_true, decide_eq_true_eq, Bool.not_eq_true'] at h
  obtain ⟨h1, h2, h3⟩ := h
  intro j x hx
  rw [List.any_eq_false] at h3
  have := h3 x (List.mem_of_getElem? hx)
  simpa using this

theorem conShape_cons {s : ByteArray} {k : Int} {pb : Bool} (hs : (s.toList == sCons) = true) (h : conShape s k pb = true) : pb = true := by
  have e := eq_of_beq hs
  unfold conShape at h
  rw [e] at h
  have h1 : (sCons == sTrue || sCons == sFalse || sCons == sNil) = false := by decide
  rw [h1] at h
  simp at h
  exact h.2

theorem treeOf_tok (l : List GDNode) (hU : Up l) (hok : ∀ (j : Nat) x, l[j]? = some x → nodeOk l x = true) (hwf : ∀ (j : Nat) x, l[j]? = some x → x.wf) : ∀ (f i : Nat), i < l.length → l.length ≤ i + f → TOk f (treeOf l f i)
  | 0, i, hi, hf => absurd hf (by omega)
  | f + 1, i, hi, hf => by
    obtain ⟨x, hx⟩ : ∃ x, l[i]? = some x := ⟨_, List.getElem?_eq_getElem hi⟩
    rw [treeOf_some hx]
    have hup := hU i x hx
    have hn := hok i x hx
    refine ⟨hwf i x hx, ?_, fun k hk => ?_⟩
    · obtain ⟨kd, nn, s, ks⟩ := x
      simp only [PxT.kind, PxT.kids, PxT.s] at *
      rcases nodeOk_kind l kd nn s ks with ⟨e, h⟩ | ⟨e, h⟩ | ⟨e, h⟩ | ⟨e, h⟩ | ⟨e, h⟩ | ⟨_, _, _, _, _, h⟩
      all_goals rw [hn] at h; replace h := h.symm; (try simp only [Bool.and_eq_true, beq_iff_eq] at h)
      · have : ks = [] := List.length_eq_zero_iff.1 (by omega)
        subst this; exact .inr (.inr (.inl ⟨e, rfl⟩))
      · have : ks = [] := List.length_eq_zero_iff.1 (by omega)
        subst this; exact .inr (.inl ⟨e, rfl⟩)
      · have : ks = [] := List.length_eq_zero_iff.1 (by omega)
        subst this; exact .inl ⟨e, rfl⟩
      · refine .inr (.inr (.inr (.inr ⟨e, ?_⟩)))
        have hl := conShape_le h.2
        match ks, hl with
        | [], _ => exact .inl rfl
        | [k], _ =>
          refine .inr ⟨_, rfl, fun hs => ?_⟩
          have hp := conShape_cons hs h.2
          have hk := hup k (by simp)
          obtain ⟨q, rfl⟩ : ∃ q : Nat, k = q := ⟨k.toNat, by omega⟩
          obtain ⟨y, hy⟩ : ∃ y, l[q]? = some y := ⟨_, List.getElem?_eq_getElem (by omega)⟩
          have h5 : y.kind = 5 := by
            unfold pairOf kindAt at hp
            simp [hy] at hp
            exact hp
          match f, (show f ≠ 0 by omega) with
          | f + 1, _ =>
            show (treeOf l (f + 1) ((q : Int).toNat)).kind = 5
            rw [Int.toNat_natCast, treeOf_some hy]
            exact h5
        | _ :: _ :: _, hl => simp at hl; omega
      · match ks, h.1 with
        | [a, b], _ => exact .inr (.inr (.inr (.inl ⟨e, _, _, rfl⟩)))
        | [], h => simp at h
        | [_], h => simp at h
        | _ :: _ :: _ :: _, h => simp at h; omega
      · cases h
    · obtain ⟨k', hk', rfl⟩ := List.mem_map.1 hk
      have := hup k' hk'
      exact treeOf_tok l hU hok hwf f k'.toNat (by omega) (by omega)

def pre (l : List GDNode) (j : Nat) : Nat := ((l.take j).map fun x => 4 * x.s.size + 30).sum
theorem pre_succ {l : List GDNode} {i : Nat} {x : GDNode} (h : l[i]? = some x) : pre l (i + 1) = pre l i + (4 * x.s.size + 30) := by
  unfold pre
  rw [take_snoc' h]
  simp
theorem pre_mono (l : List GDNode) : ∀ (k i : Nat), pre l i ≤ pre l (i + k)
  | 0, i => Nat.le_refl _
  | k + 1, i => by
    have h := pre_mono l k i
    cases hx : l[i + k]? with
    | some x => have := pre_succ hx; rw [← Nat.add_assoc, this]; omega
    | none =>
      have hl := List.getElem?_eq_none_iff.1 hx
      unfold pre at *
      rw [List.take_of_length_le (show l.length ≤ i + (k + 1) by omega)]
      rw [List.take_of_length_le hl] at h
      exact h
theorem kidsEnd_wt {E : Nat → Int} {L : Int} (g P : Nat → Nat) (hE : ∀ k, 0 ≤ E k → (k : Int) + 1 ≤ E k ∧ E k ≤ L) (hg : ∀ k, 0 ≤ E k → g k + P k ≤ P (E k).toNat) : ∀ (ks : List Int) (nx : Int), 0 ≤ nx → 0 ≤ kidsEnd E nx ks →
    (ks.map fun k => g k.toNat).sum + P nx.toNat ≤ P (kidsEnd E nx ks).toNat
  | [], nx, h0, h => by unfold kidsEnd; simp
  | k :: ks, nx, h0, h => by
    unfold kidsEnd at h ⊢
    split at h
    · omega
    · split at h
      · omega
      · rename_i h1 h2
        have e : k = nx := by omega
        subst e
        have h3 := hE k.toNat (by omega)
        have h4 := kidsEnd_wt g P hE hg ks (E k.toNat) (by omega) h
        have h5 := hg k.toNat (by omega)
        rw [if_neg h1, if_neg h2]
        simp only [List.map_cons, List.sum_cons]
        omega
theorem wt_ends (l : List GDNode) : ∀ (F i f : Nat), 0 ≤ ends l F i → wt f (treeOf l f i) + pre l i ≤ pre l (ends l F i).toNat
  | 0, i, f, h => by simp [ends] at h
  | F + 1, i, f, h => by
    have hr := ends_range l (F + 1) i h
    match f with
    | 0 =>
      have := pre_mono l ((ends l (F + 1) i).toNat - i) i
      rw [show i + ((ends l (F + 1) i).toNat - i) = (ends l (F + 1) i).toNat by omega] at this
      show 0 + pre l i ≤ _
      omega
    | f + 1 =>
      unfold ends at h ⊢
      cases hx : l[i]? with
      | none => rw [hx] at h; simp at h
      | some x =>
        rw [hx] at h
        have h1 := kidsEnd_wt (fun k => wt f (treeOf l f k)) (pre l) (ends_range l F) (fun k hk => wt_ends l F k f hk) x.kids (i + 1) (by omega) h
        have h2 := pre_succ hx
        rw [treeOf_some hx]
        show 4 * x.s.size + 30 + ((x.kids.map fun k => treeOf l f k.toNat).map (wt f)).sum + pre l i ≤ pre l (kidsEnd (ends l F) (i + 1) x.kids).toNat
        rw [List.map_map]
        have e : (((i : Int) + 1).toNat) = i + 1 := by omega
        rw [e] at h1
        have e2 : (x.kids.map (wt f ∘ fun k => treeOf l f k.toNat)) = x.kids.map fun k => wt f (treeOf l f k.toNat) := rfl
        rw [e2]
        omega
theorem sum_pre (l : List GDNode) : (((l.map fun x => 4 * x.s.size + 30).sum : Nat) : Int) ≤ 4 * bulkS GDNode.bulk l + 30 * l.length := by
  unfold bulkS
  induction l with
  | nil => simp
  | cons a l ih =>
    simp only [List.map_cons, List.sum_cons, List.length_cons] at *
    have : (a.s.size : Int) ≤ a.bulk := by unfold GDNode.bulk; omega
    omega
theorem wt_data {d : GData} (h : dataOk d = true) (hb : d.bulk ≤ 1048576) : wt d.nodes.length (treeOf d.nodes d.nodes.length 0) ≤ 1073741824 := by
  obtain ⟨_, h0, h6⟩ := dataOk_up h
  unfold dataOk at h
  simp only [Bool.and_eq_true, decide_eq_true_eq] at h
  obtain ⟨h1, h2, _⟩ := h
  rw [show kidsAt d.nodes = (fun i => (d.nodes[i]?.map (·.kids)).getD []) from rfl, ← ends_eq] at h2
  have h3 := wt_ends d.nodes (d.nodes.length + 1) 0 d.nodes.length (by omega)
  rw [h2, Int.toNat_natCast] at h3
  have h4 := sum_pre d.nodes
  have h5 : pre d.nodes d.nodes.length = (d.nodes.map fun x => 4 * x.s.size + 30).sum := by unfold pre; rw [List.take_length]
  unfold GData.bulk at hb
  rw [h5] at h3
  omega

end Go.Proofs.Ytklfepnokidnaaa
