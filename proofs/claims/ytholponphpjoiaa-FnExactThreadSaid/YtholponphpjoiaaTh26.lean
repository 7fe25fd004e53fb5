/- Parts of the proof, merged: DataOk. -/
import Derived.Test.YtholponphpjoiaaTh25
/- DataOk: the program's. -/
namespace Go.Proofs.Ytholponphpjoiaa
open Go.RowKit
set_option linter.unusedVariables false
set_option linter.unusedSimpArgs false
attribute [local go_sem] Ext.cell

theorem kidsEnd_all {E : Nat → Int} {L : Int} {P : Nat → Prop} (hE : ∀ k, 0 ≤ E k → (k : Int) + 1 ≤ E k ∧ E k ≤ L) (hP : ∀ k, 0 ≤ E k → ∀ j : Nat, k ≤ j → (j : Int) < E k → P j) : ∀ (ks : List Int) (nx : Int), 0 ≤ nx → 0 ≤ kidsEnd E nx ks →
    (∀ k ∈ ks, 0 ≤ k ∧ k < L) ∧ ∀ j : Nat, nx ≤ j → (j : Int) < kidsEnd E nx ks → P j
  | [], nx, h0, h => ⟨fun k hk => by simp at hk, fun j h1 h2 => by unfold kidsEnd at h2; omega⟩
  | k :: ks, nx, h0, h => by
    unfold kidsEnd at h ⊢
    split at h
    · omega
    · split at h
      · omega
      · rename_i h1 h2
        have e : k = nx := by omega
        have h3 := hE k.toNat (by omega)
        have h4 := kidsEnd_all hE hP ks (E k.toNat) (by omega) h
        rw [if_neg h1, if_neg h2]
        refine ⟨fun k' hk' => ?_, fun j h5 h6 => ?_⟩
        · rcases List.mem_cons.1 hk' with rfl | h7
          · omega
          · exact h4.1 k' h7
        · by_cases h7 : (j : Int) < E k.toNat
          · exact hP k.toNat (by omega) j (by omega) h7
          · exact h4.2 j (by omega) h6
theorem ends_kids (l : List GDNode) : ∀ (f i : Nat), 0 ≤ ends l f i → ∀ j : Nat, i ≤ j → (j : Int) < ends l f i → ∀ x, l[j]? = some x → ∀ k ∈ x.kids, 0 ≤ k ∧ k < (l.length : Int)
  | 0, i, h => by simp [ends] at h
  | f + 1, i, h => by
    unfold ends at h ⊢
    cases hi : l[i]? with
    | none => rw [hi] at h; simp at h
    | some n =>
      rw [hi] at h
      have h1 := kidsEnd_all (ends_range l f) (P := fun j => ∀ x, l[j]? = some x → ∀ k ∈ x.kids, 0 ≤ k ∧ k < (l.length : Int)) (fun k hk j h2 h3 => ends_kids l f k hk j h2 h3) n.kids (i + 1) (by omega) h
      intro j h2 h3 x hx
      by_cases e : i = j
      · subst e
        obtain rfl : n = x := Option.some.inj (hi.symm.trans hx)
        exact h1.1
      · exact h1.2 j (by omega) h3 x hx

def kidsAt (l : List GDNode) (i : Nat) : List Int := (l[i]?.map (·.kids)).getD []
def dataOk (d : GData) : Bool := decide (1 ≤ (d.nodes.length : Int) ∧ (d.nodes.length : Int) ≤ 600) && (decide (endsK d.nodes.length (kidsAt d.nodes) (d.nodes.length + 1) 0 = d.nodes.length) && !d.nodes.any fun x => !nodeOk d.nodes x)

theorem kids_in {d : GData} (h : endsK d.nodes.length (kidsAt d.nodes) (d.nodes.length + 1) 0 = d.nodes.length) {i : Nat} {x : GDNode} (hx : d.nodes[i]? = some x) : ∀ k ∈ x.kids, 0 ≤ k ∧ k < (d.nodes.length : Int) := by
  have h' : ends d.nodes (d.nodes.length + 1) 0 = d.nodes.length := by rw [ends_eq]; exact h
  have hi := (List.getElem?_eq_some_iff.1 hx).1
  exact ends_kids d.nodes (d.nodes.length + 1) 0 (by omega) i (by omega) (by omega) x hx

end Go.Proofs.Ytholponphpjoiaa
