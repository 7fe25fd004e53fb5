/- The law LibNames: the walk. -/
import Derived.Test.YtakpmnagdpiceaaLibNames2
namespace Go.Proofs.Ytakpmnagdpiceaa
open Go.RowKit
set_option linter.unusedVariables false
set_option linter.unusedSimpArgs false
attribute [local go_sem] Ext.cell

namespace fnExactLibNames
theorem eqNames (u v : Value) (lo lo' : Nat) (w : World) (hx : Sl StrR 1 lo w u libNames) (hy : Sl StrR 1 lo' w v libNames) :
    Calls Try.prog 11 #[u, v] w fun e w' => e = .returned (.bool true) ∧ Below w.heap.size w w' :=
  (eqStringS_c libNames libNames u v lo lo' w hx hy).mono fun e w' ⟨he, hb⟩ => ⟨by rw [he, decide_eq_true rfl], hb⟩
theorem names_sl {w : World} {base : Nat} {v : Value} (h : w.ownsRow base 9 1 v 13 (libNames.map Value.string)) : Sl StrR 1 base w v libNames := own_sl libNames h (fun x hx => ⟨rfl, libNames_ok x hx⟩)

set_option maxRecDepth 100000 in
set_option maxHeartbeats 2000000 in
theorem law (w : World) :
    Calls Try.prog 3 #[] w fun en w' => en = .returned (.bool true) ∧ Below w.heap.size w w' := by
  go_enter Try.func3, Try.ntmps3
  go_wp2_with fail
  refine (spec_LibNames_c _).mono ?_
  rintro e w1 ⟨v0, rfl, O0, h1⟩
  have hlt0 := own_base O0
  go_wp2_with fail
  refine (impl_LibNames_c _).mono ?_
  rintro e w2 ⟨v1, rfl, O1, h2⟩
  replace O0 := own_below O0 h2
  have hw := h1.trans (h2.mono h1.size)
  have hz1 := h1.size
  have S1 := names_sl O1
  obtain ⟨g, cap, rfl, hg1, hg2, hc1, hc2, -, hW⟩ := own_cells O1 (by decide)
  clear h1 h2 O1
  go_wp2_with fail
  refine (eqNames _ _ _ _ _ S1 (names_sl O0)).mono ?_
  rintro e w3 ⟨rfl, h3⟩
  replace O0 := own_below O0 h3
  replace hW := hW.below h3
  replace hg2 : g < w3.heap.size := Nat.lt_of_lt_of_le hg2 h3.size
  replace hw := hw.trans (h3.mono hw.size)
  clear S1 h3
  go_wp2_with fail
  refine (show Calls Try.prog 12 #[.slice (some ⟨g, 0, none⟩) 13 cap, .int .i64 1] w3 (fun e w' => e = .returned (.int .i64 14) ∧ Mk w' g 0 13 (fun j => .string (markT (1 + j))) ∧ Below w1.heap.size w3 w' ∧ Kept (· = g) w3 w') from markStringS_c g 0 13 cap 1 w1.heap.size hg1 (by decide) w3 hg2 hW).mono ?_
  rintro e w4 ⟨rfl, hM, h4, hK⟩
  replace O0 := own_kept O0 hK (fun g' hg' e => by have := (hlt0 g' hg').2; omega)
  replace hw := hw.trans (h4.mono hz1)
  clear h4 hK hW
  go_wp2_with fail
  refine (show Calls Try.prog 13 #[.slice (some ⟨g, 0, none⟩) 13 cap, .int .i64 1] w4 (fun e w' => e = .returned (.int .i64 14) ∧ Below w4.heap.size w4 w') from heldStringS_c g 0 13 cap 1 (by decide) w4 hM).mono ?_
  rintro e w5 ⟨rfl, h5⟩
  replace O0 := own_below O0 h5
  replace hM := hM.below h5
  replace hw := hw.trans (h5.mono hw.size)
  clear h5
  go_wp2_with fail
  refine (impl_LibNames_c _).mono ?_
  rintro e w6 ⟨v2, rfl, O2, h6⟩
  replace O0 := own_below O0 h6
  replace hM := hM.below h6
  replace hw := hw.trans (h6.mono hw.size)
  clear h6
  go_wp2_with fail
  refine (eqNames _ _ _ _ _ (names_sl O2) (names_sl O0)).mono ?_
  rintro e w7 ⟨rfl, h7⟩
  replace hM := hM.below h7
  replace hw := hw.trans (h7.mono hw.size)
  clear h7 O0 O2
  go_wp2_with fail
  refine (show Calls Try.prog 13 #[.slice (some ⟨g, 0, none⟩) 13 cap, .int .i64 1] w7 (fun e w' => e = .returned (.int .i64 14) ∧ Below w7.heap.size w7 w') from heldStringS_c g 0 13 cap 1 (by decide) w7 hM).mono ?_
  rintro e w8 ⟨rfl, h8⟩
  replace hw := hw.trans (h8.mono hw.size)
  clear h8 hM
  go_wp2_with fail
  go_returns
  exact ⟨rfl, hw⟩
end fnExactLibNames
end Go.Proofs.Ytakpmnagdpiceaa
