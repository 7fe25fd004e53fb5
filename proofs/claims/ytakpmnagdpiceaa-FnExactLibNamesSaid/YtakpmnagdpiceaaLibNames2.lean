/- LibNames, the reference's. -/
import Derived.Test.YtakpmnagdpiceaaLibNames
namespace Go.Proofs.Ytakpmnagdpiceaa
open Go.RowKit
set_option linter.unusedVariables false
set_option linter.unusedSimpArgs false
attribute [local go_sem] Ext.cell

def nameVals (k : Nat) : List Value := (libNames.take k).map Value.string
theorem nameVals_step {k : Nat} {x : ByteArray} (h : libNames[k]? = some x) : nameVals (k + 1) = nameVals k ++ [.string x] := by unfold nameVals; rw [take_snoc' h]; simp

theorem DefRow.kept {S : Nat → Prop} {w w' : World} {b i : Nat} {x : ByteArray} (h : DefRow w b i x) (hk : Kept S w w') (hb : b < w.heap.size) (hS : ¬ S b) : DefRow w' b i x := by
  obtain ⟨s0, s1, a, n, c, d, hr⟩ := h
  exact ⟨s0, s1, a, n, c, d, fun j u hu => by rw [World.cell?_of_block (w := w) (a := ⟨b, i * 5 + j, none⟩) (hk b hb hS)]; exact hr j u hu⟩

set_option maxHeartbeats 1000000 in
set_option maxRecDepth 100000 in
theorem spec_LibNames_c (w : World) :
    Calls Try.prog 9 #[] w fun e w' => ∃ v, e = .returned v ∧ w'.ownsRow w.heap.size 9 1 v 13 (libNames.map Value.string) ∧ Below w.heap.size w w' := by
  obtain ⟨i0, hi, hi0, hi1, hi2⟩ := info_parts info_StringS
  have I := Lib.hid hi; have I0 := Lib.hid hi0; have I1 := Lib.hid hi1; have I2 := Lib.hid hi2
  clear hi hi0 hi1 hi2
  go_enter Try.func9, Try.ntmps9
  go_wp2_with (go_at_call 35; refine (l22Defs_c _).mono ?_; rintro e w1 ⟨b, rfl, hb0, hb1, hD, hb⟩)
  have O := own_below (own_new w #[] 9 1 0 rfl (by decide) w.heap.size (Nat.le_refl _)) hb
  have hw : Below w.heap.size w w1 := Below.trans (by go_grown) (hb.mono (by go_grown))
  have hz : w.heap.size < w1.heap.size := by have := hb.size; simp only [World.size_alloc] at this; omega
  clear hb
  go_loopw [1, 7] (fun o i wr => ∃ k : Nat, k ≤ 13 ∧ i = .int .i64 k ∧ wr.ownsRow w.heap.size 9 1 o k (nameVals k) ∧ (∀ g, o.ownBlock = some g → g ≠ b) ∧ (∀ i x, libNames[i]? = some x → DefRow wr b i x) ∧ b < wr.heap.size ∧ Below w.heap.size w wr) (fun _ i _ => 13 - (intOf i).toNat)
  case atStart => exact ⟨0, by omega, rfl, O, fun g hg => by simp [Value.ownBlock] at hg; simp only [World.size_alloc] at hb0; omega, hD, hb1, hw⟩
  case round =>
    clear O hw hz hD hb1
    obtain ⟨k, hk, rfl, O, hne, hD, hb1, hw⟩ := hrel
    have hz := hw.size
    by_cases hlt : k < 13
    · obtain ⟨x, hx⟩ : ∃ x, libNames[k]? = some x := ⟨libNames[k]'hlt, List.getElem?_eq_getElem hlt⟩
      replace hx := Lib.hid hx
      obtain ⟨s0, s1, da, dn, dc, dd, hr⟩ := hD k x hx.out
      obtain ⟨e0, e1, e2, e3, e4⟩ : wr.cell? ⟨b, k * 5, none⟩ = some (.string x) ∧ wr.cell? ⟨b, k * 5 + 1, none⟩ = some (.string s0) ∧ wr.cell? ⟨b, k * 5 + 2, none⟩ = some (.string s1) ∧ wr.cell? ⟨b, k * 5 + 3, none⟩ = some (.slice da dn dc) ∧ wr.cell? ⟨b, k * 5 + 4, none⟩ = some (.bool dd) := ⟨hr 0 _ rfl, hr 1 _ rfl, hr 2 _ rfl, hr 3 _ rfl, hr 4 _ rfl⟩
      clear hr
      replace hD := Lib.hid hD; replace O := Lib.hid O; replace hne := Lib.hid hne
      go_wp2_with (at_builtin; refine wpList_append_lies _ rfl _ _ _ rfl w.heap.size 9 i0 _ 1 16 Try.underlying22 I.out I0.out I1.out I2.out rfl (by omega) u1 k (nameVals k) rfl (own_below O.out (by go_grown)) ⟨wr.heap.size + 1, 0, none⟩ 1 1 [.string x] rfl rfl (World.news_of_block (cs := #[.string x]) (t := 9) (fr := (0, 0)) (heap_alloc_new' _ _ _ (by simp))) (by intro u hu; simp at hu; subst hu; rfl) (by omega) (by unfold maxLen; omega) (by omega) (by simp; omega) _ rfl ?_; intro g cap w2 hown hgrow hat hlt2)
      have hk2 := kept_of hgrow (w := wr) (by go_grown)
      have hw2 := below_grown2 (wr := wr) hgrow (by go_grown) hw hz O.out
      have hz2 := hgrow.size
      simp only [World.size_alloc] at hz2 hat
      go_roundw
      case rel =>
        refine ⟨k + 1, by omega, by go_num, by rw [nameVals_step hx.out]; exact hown, fun g' hg' => ?_, fun i y hy => (hD.out i y hy).kept hk2 hb1 (fun e => hne.out b e.symm rfl), by omega, hw2⟩
        obtain rfl : g = g' := by simpa [Value.ownBlock] using hg'
        rcases hat with h | h
        · exact hne.out g h
        · omega
      case measure => simp [intOf]; omega
    · obtain rfl : k = 13 := by omega
      replace hD := Lib.hid hD; replace O := Lib.hid O; replace hne := Lib.hid hne
      go_wp2
      go_returns
      exact ⟨_, rfl, O.out, hw⟩

end Go.Proofs.Ytakpmnagdpiceaa
