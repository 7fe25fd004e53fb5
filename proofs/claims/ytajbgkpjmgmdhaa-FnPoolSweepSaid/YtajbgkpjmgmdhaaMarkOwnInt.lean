/- Marks of slices of Int that the call owns, nil or not: printed by gen_markown.py. -/
import Derived.Test.YtajbgkpjmgmdhaaMarkInt
namespace Go.Proofs.Ytajbgkpjmgmdhaa
open Go.RowKit
set_option linter.unusedVariables false
set_option linter.unusedSimpArgs false
attribute [local go_sem] Ext.cell

set_option maxHeartbeats 1000000 in
theorem markIntS_nil (z : Int) (w : World) :
    Calls Try.prog 53 #[.slice none 0 0, .int .i64 z] w fun e w' => e = .returned (.int .i64 z) ∧ Below w.heap.size w w' := by
  go_enter Try.func53, Try.ntmps53
  go_wp2_with fail
  go_loopw [1, 5] (fun kk i wr => kk = .int .i64 z ∧ i = .int .i64 0 ∧ Below w.heap.size w wr) (fun _ _ _ => 0)
  case atStart => exact ⟨rfl, rfl, Below.refl _ _⟩
  case round =>
    obtain ⟨rfl, rfl, hw⟩ := hrel
    go_wp2
    go_returns
    exact ⟨rfl, hw⟩
set_option maxHeartbeats 1000000 in
theorem heldIntS_nil (z : Int) (w : World) :
    Calls Try.prog 54 #[.slice none 0 0, .int .i64 z] w fun e w' => e = .returned (.int .i64 z) ∧ Below w.heap.size w w' := by
  go_enter Try.func54, Try.ntmps54
  go_wp2_with fail
  go_loopw [1, 5] (fun kk i wr => kk = .int .i64 z ∧ i = .int .i64 0 ∧ Below w.heap.size w wr) (fun _ _ _ => 0)
  case atStart => exact ⟨rfl, rfl, Below.refl _ _⟩
  case round =>
    obtain ⟨rfl, rfl, hw⟩ := hrel
    go_wp2
    go_returns
    exact ⟨rfl, hw⟩

/-- A marked slice, nil or not. -/
def MkInts (w : World) (v : Value) (N k : Nat) : Prop := (v = .slice none 0 0 ∧ N = 0) ∨ ∃ g cap, v = .slice (some ⟨g, 0, none⟩) N cap ∧ Mk w g 0 (N) (mkInt k)
theorem MkInts.below {w w' : World} {v : Value} {N k : Nat} (h : MkInts w v N k) (hb : Below w.heap.size w w') : MkInts w' v N k := by
  rcases h with h | ⟨g, cap, hv, hM⟩
  · exact .inl h
  · exact .inr ⟨g, cap, hv, hM.below hb⟩
theorem MkInts.kept {S : Nat → Prop} {w w' : World} {v : Value} {N k : Nat} (h : MkInts w v N k) (hk : Kept S w w') (hv : ∀ g, v.ownBlock = some g → ¬ S g) : MkInts w' v N k := by
  rcases h with h | ⟨g, cap, rfl, hM⟩
  · exact .inl h
  · exact .inr ⟨g, cap, rfl, hM.kept hk (hv g rfl)⟩
theorem MkInts.form {w : World} {v : Value} {N k : Nat} (h : MkInts w v N k) : ∃ a c, v = .slice a N c := by
  rcases h with ⟨rfl, rfl⟩ | ⟨g, cap, rfl, hM⟩ <;> exact ⟨_, _, rfl⟩
theorem markInts_c (v : Value) (N k lo : Nat) (z r : Int) (hz : z = k) (hr : r = z + (N : Int)) (hk : k + N ≤ 4611686018427387904) (xs : List Value) (w : World) (O : w.ownsRow lo 3 1 v N xs) (hlo : lo ≤ w.heap.size) :
    Calls Try.prog 53 #[v, .int .i64 z] w fun e w' => e = .returned (.int .i64 r) ∧ MkInts w' v N k ∧ Below lo w w' ∧ Kept (fun q => v.ownBlock = some q) w w' := by
  subst hr
  subst hz
  have hb := own_base O
  rcases O.2 with ⟨rfl, h0⟩ | ⟨g, cap, cur, rfl, h1, h2, h3, h4, h5, h6⟩
  · have hN := O.1
    obtain rfl : N = 0 := by subst h0; simp at hN; omega
    exact (markIntS_nil k w).mono fun e w' ⟨he, hb⟩ => ⟨by rw [he]; simp, .inl ⟨rfl, rfl⟩, hb.mono hlo, Kept.below hb⟩
  · have hW : Wr w g 0 (N) := fun j hj => by
      have hjc : j < cur.size := by rw [h5]; exact Nat.lt_of_lt_of_le hj (by omega)
      refine ⟨cur[j], ?_, ?_⟩
      · rw [cell_of_row w g _ cur 3 (0, 0) h2, Nat.zero_add, Array.getElem?_eq_getElem hjc]
      · simp [World.frozen?, h2]
    refine (markIntS_c g 0 N cap k lo h1 hk w (hb g rfl).2 hW).mono fun e w' ⟨he, hM, hB, hK⟩ => ⟨by rw [he]; congr 2 <;> omega, .inr ⟨g, cap, rfl, hM⟩, hB, fun q h1 h2 => hK q h1 (fun e => h2 (by rw [e]; rfl))⟩
theorem heldInts_c (v : Value) (N k : Nat) (z r : Int) (hz : z = k) (hr : r = z + (N : Int)) (hk : k + N ≤ 4611686018427387904) (w : World) (h : MkInts w v N k) :
    Calls Try.prog 54 #[v, .int .i64 z] w fun e w' => e = .returned (.int .i64 r) ∧ Below w.heap.size w w' := by
  subst hr
  subst hz
  rcases h with ⟨rfl, rfl⟩ | ⟨g, cap, rfl, hM⟩
  · exact (heldIntS_nil k w).mono fun e w' ⟨he, hb⟩ => ⟨by rw [he]; simp, hb⟩
  · exact (heldIntS_c g 0 N cap k hk w hM).mono fun e w' ⟨he, hb⟩ => ⟨by rw [he]; congr 2 <;> omega, hb⟩

end Go.Proofs.Ytajbgkpjmgmdhaa
