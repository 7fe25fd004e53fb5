/- slices.Concat of two slices of strings. -/
import Derived.Test.YtigacgfaliicaaaOwn
import Derived.Test.YtigacgfaliicaaaName
import Derived.Lib.AppendZerosOnto
import Derived.Lib.Walk
import Derived.Deep.AppendSrc
namespace Go.Proofs.Ytigacgfaliicaaa
open Go.RowKit
set_option linter.unusedVariables false
set_option linter.unusedSimpArgs false
attribute [local go_sem] Ext.cell

theorem info_str : (Try.prog.info? 9).map (fun i => (i.zero, i.size, i.bytes)) = some (some (.string ⟨#[]⟩), 1, 16) := by kernel_rfl

theorem SlAt.news {lo b off : Nat} {w : World} {ls : List ByteArray} (h : SlAt StrR 1 lo w (some ⟨b, off, none⟩) ls) : ∀ j u, (ls.map Value.string)[j]? = some u → w.cell? ((⟨b, off, none⟩ : Addr).add j) = some u := by
  intro j u hj
  rw [List.getElem?_map] at hj
  cases hq : ls[j]? with
  | none => rw [hq] at hj; cases hj
  | some x =>
    rw [hq] at hj
    obtain rfl : .string x = u := by simpa using hj
    have hlt := (List.getElem?_eq_some_iff.1 hq).1
    obtain ⟨b', o', _, ha, h4⟩ := h (by omega)
    obtain ⟨rfl, rfl⟩ : b = b' ∧ off = o' := by injection ha with h; injection h with h1 h2; exact ⟨h1, h2⟩
    obtain ⟨r, ⟨rfl, _⟩, h6⟩ := h4 j x hq
    have := h6 0 _ rfl
    rw [show (Addr.add ⟨b, off, none⟩ j) = ⟨b, off + j, none⟩ by (unfold Addr.add; split <;> simp_all)]
    simpa using this

set_option maxRecDepth 100000 in
set_option maxHeartbeats 2000000 in
theorem growNil_c (n : Nat) (h0 : 0 < n) (hn : n ≤ 100000) (w : World) :
    Calls Try.prog 42 #[.slice none 0 0, .int .i64 n] w fun e w' => ∃ g cap, e = .returned (.slice (some ⟨g, 0, none⟩) 0 cap) ∧ w'.ownsRow w.heap.size 9 1 (.slice (some ⟨g, 0, none⟩) 0 cap) 0 [] ∧ Below w.heap.size w w' := by
  obtain ⟨i0, hi0, hz0, hz1, hz2⟩ := info_parts info_str
  have hrz : ∀ ty, (Builtin.append_ #[22, 3] ty #[.slice none 0 0, .int .i64 n]).run Try.prog w =
      .ok (.slice (some ⟨w.heap.size, 0, none⟩) (0 + n) (grownCap w (0 + n) 0 9)) (w.drew.alloc (.cells ((#[] : Array Value) ++ Builtin.zeroCells (Value.string ⟨#[]⟩).cells n ++ Builtin.zeroCells (Value.string ⟨#[]⟩).cells (grownCap w (0 + n) 0 9 - (0 + n))) 9)) := fun ty =>
    Lib.run_append_grow_zeros w 22 3 ty 9 i0 _ .i64 .i64 Try.underlying22 Try.underlying3 hi0 hz0 none 0 0 [] (run_firstCells_none w.drew i0.size 0 0 0) n h0 (by rw [hz1]; decide) (by omega) (by omega) (by rw [hz2]; omega) (growslice_fits (by omega) (by rw [hz2]; omega))
  have hGn : 0 + n ≤ grownCap w (0 + n) 0 9 := grownCap_ge w _ _ _
  have hG63 := grownCap_le_maxLen w (0 + n) 0 9 (by unfold maxLen; omega)
  generalize grownCap w (0 + n) 0 9 = G at *
  have hfin : (w.drew.alloc (.cells ((#[] : Array Value) ++ Builtin.zeroCells (Value.string ⟨#[]⟩).cells n ++ Builtin.zeroCells (Value.string ⟨#[]⟩).cells (G - (0 + n))) 9)).ownsRow w.heap.size 9 1 (.slice (some ⟨w.heap.size, 0, none⟩) 0 G) 0 [] := by
    refine ⟨rfl, .inr ⟨w.heap.size, G, _, rfl, Nat.le_refl _, heap_alloc_new' _ _ _ (by simp), Nat.zero_le _, hG63, ?_, by simp⟩⟩
    simp [Builtin.zeroCells, Value.cells]
    omega
  have hbel : Below w.heap.size w (w.drew.alloc (.cells ((#[] : Array Value) ++ Builtin.zeroCells (Value.string ⟨#[]⟩).cells n ++ Builtin.zeroCells (Value.string ⟨#[]⟩).cells (G - (0 + n))) 9)) := by go_grown
  generalize w.drew.alloc (.cells ((#[] : Array Value) ++ Builtin.zeroCells (Value.string ⟨#[]⟩).cells n ++ Builtin.zeroCells (Value.string ⟨#[]⟩).cells (G - (0 + n))) 9) = W at *
  have h1 : ¬ ((n : Int) < 0) := by omega
  have h4 : (n : Int) > 0 := by omega
  have h5 : (0 : Int) ≤ n := by omega
  clear hi0 hz0 hz1 hz2
  unfold maxLen at hG63
  replace hfin := Lib.hid hfin
  go_enter Try.func42, Try.ntmps42
  go_wp2_with (at_builtin; refine Lib.wpList_append_run _ rfl _ _ _ _ rfl _ _ rfl rfl _ _ (hrz _) ?_)
  go_returns
  exact ⟨w.heap.size, G, rfl, hfin.out, hbel⟩

end Go.Proofs.Ytigacgfaliicaaa
