/- Pools that the call owns: the copies of slices and of pools, and which cells are free. -/
import Derived.Test.YtajbgkpjmgmdhaaPoolOk2
import Derived.Test.YtajbgkpjmgmdhaaFlat
import Derived.Test.YtajbgkpjmgmdhaaTo
import Derived.Deep.RegionHeld3
import Derived.Lib.SliceRun
namespace Go.Proofs.Ytajbgkpjmgmdhaa
open Go.RowKit
set_option linter.unusedVariables false
set_option linter.unusedSimpArgs false
attribute [local go_sem] Ext.cell

abbrev OwnCells := OwnF 30 9 cellRow GCell.wf
abbrev OwnInts := OwnF 3 1 intRow I64

/-- A pool whose memory the call owns. -/
structure OwnPool (lo : Nat) (w : World) (u0 u1 : Value) (p : GPool) : Prop where
  cells : OwnCells lo w u0 p.cells
  free : OwnInts lo w u1 p.free
  apart : ∀ g, u0.ownBlock = some g → u1.ownBlock ≠ some g
theorem OwnPool.below {lo : Nat} {w w' : World} {u0 u1 : Value} {p : GPool} (h : OwnPool lo w u0 u1 p) (hb : Below w.heap.size w w') : OwnPool lo w' u0 u1 p := ⟨h.cells.below hb, h.free.below hb, h.apart⟩
theorem OwnPool.kept {S : Nat → Prop} {lo : Nat} {w w' : World} {u0 u1 : Value} {p : GPool} (h : OwnPool lo w u0 u1 p) (hk : Kept S w w') (h0 : ∀ g, u0.ownBlock = some g → ¬ S g) (h1 : ∀ g, u1.ownBlock = some g → ¬ S g) : OwnPool lo w' u0 u1 p := ⟨h.cells.kept hk h0, h.free.kept hk h1, h.apart⟩
theorem OwnPool.mono {lo lo' : Nat} {w : World} {u0 u1 : Value} {p : GPool} (h : OwnPool lo w u0 u1 p) (hl : lo' ≤ lo) : OwnPool lo' w u0 u1 p := ⟨h.cells.mono hl, h.free.mono hl, h.apart⟩
theorem OwnPool.R {lo : Nat} {w : World} {u0 u1 : Value} {p : GPool} (h : OwnPool lo w u0 u1 p) : GPool.R lo w [u0, u1] p := ⟨u0, u1, rfl, trivial, h.cells.sl flatCell, h.free.sl flatInt⟩
theorem OwnPool.nil (lo : Nat) (w : World) : OwnPool lo w (.slice none 0 0) (.slice none 0 0) GPool.zero := ⟨OwnF.empty, OwnF.empty, fun g h => by cases h⟩

theorem slice_none {α : Type} {R : Reading α} {sz lo : Nat} {w : World} {xs : List α} {n c : Nat} (h : SlAt R sz lo w none xs) : xs = [] := by
  rcases Nat.eq_zero_or_pos xs.length with h0 | h0
  · exact List.length_eq_zero_iff.1 h0
  · obtain ⟨b, off, _, ha, _⟩ := h h0
    cases ha

set_option maxRecDepth 100000 in
set_option maxHeartbeats 1000000 in
theorem cloneCell_c (xs : List GCell) (u : Value) (lo : Nat) (hlen : xs.length ≤ 1048576) (w : World) (hu : Sl GCell.R 9 lo w u xs) :
    Calls Try.prog 73 #[u] w fun e w' => ∃ v, e = .returned v ∧ OwnCells w.heap.size w' v xs ∧ Below w.heap.size w w' := by
  have Hu := hu
  obtain ⟨a, c, rfl, l1, m1, hh⟩ := hu
  obtain ⟨i0, hi0, hz0, hz1, hz2⟩ := info_parts info_CellS
  have qn : ∀ (w : World) (a : Option Addr) (n c n' c' : Nat), (binOp .eql 23 (.slice a n c) (.slice none n' c')).run Try.prog w = .ok (.bool a.isNone) w := fun w a n c n' c' => Lib.run_eql_slice_nil w _ _ a n c n' c' Try.underlying23
  have I := Lib.hid hi0; have I0 := Lib.hid hz0; have I1 := Lib.hid hz1; have I2 := Lib.hid hz2
  clear hi0 hz0 hz1 hz2
  cases a with
  | none =>
    obtain rfl : xs = [] := slice_none (n := 0) (c := 0) hh
    clear Hu hh
    simp only [List.length_nil]
    go_enter Try.func73, Try.ntmps73
    go_wp2_with fail
    go_returns
    exact ⟨_, rfl, OwnF.empty, by go_grown⟩
  | some a =>
    have hO := own_new w #[] 30 9 0 rfl (by unfold maxLen; omega) w.heap.size (Nat.le_refl _)
    replace Hu := Lib.hid Hu
    generalize hn : xs.length = n at *
    replace hn := Lib.hid hn
    clear hh
    go_enter Try.func73, Try.ntmps73
    go_wp2_with (at_builtin; refine wpList_append_sl _ flatCell rfl _ _ _ rfl w.heap.size 30 i0 _ 96 Try.underlying23 I.out I0.out I1.out I2.out rfl w.heap.size 0 0 [] rfl hO lo _ xs rfl (Hu.out.below GCell.good (by go_grown)) (by rw [hn.out]; unfold maxLen; omega) (by rw [hn.out]; omega) (by simp) ?_; rw [hn.out]; intro g cap w2 hown hgrow hg)
    have hb2 : Below w.heap.size w w2 := below_grown (by go_grown) (by simp) hO hgrow
    go_returns
    refine ⟨_, rfl, ⟨?_, flatCell.wfs Hu.out⟩, hb2⟩
    rw [hn.out]
    simpa using hown

set_option maxRecDepth 100000 in
set_option maxHeartbeats 1000000 in
theorem cloneInt_c (xs : List Int) (u : Value) (lo : Nat) (hlen : xs.length ≤ 1048576) (w : World) (hu : Sl IntR 1 lo w u xs) :
    Calls Try.prog 74 #[u] w fun e w' => ∃ v, e = .returned v ∧ OwnInts w.heap.size w' v xs ∧ Below w.heap.size w w' := by
  have Hu := hu
  obtain ⟨a, c, rfl, l1, m1, hh⟩ := hu
  obtain ⟨i0, hi0, hz0, hz1, hz2⟩ := info_parts info_IntS
  have qn : ∀ (w : World) (a : Option Addr) (n c n' c' : Nat), (binOp .eql 24 (.slice a n c) (.slice none n' c')).run Try.prog w = .ok (.bool a.isNone) w := fun w a n c n' c' => Lib.run_eql_slice_nil w _ _ a n c n' c' Try.underlying24
  have I := Lib.hid hi0; have I0 := Lib.hid hz0; have I1 := Lib.hid hz1; have I2 := Lib.hid hz2
  clear hi0 hz0 hz1 hz2
  cases a with
  | none =>
    obtain rfl : xs = [] := slice_none (n := 0) (c := 0) hh
    clear Hu hh
    simp only [List.length_nil]
    go_enter Try.func74, Try.ntmps74
    go_wp2_with fail
    go_returns
    exact ⟨_, rfl, OwnF.empty, by go_grown⟩
  | some a =>
    have hO := own_new w #[] 3 1 0 rfl (by unfold maxLen; omega) w.heap.size (Nat.le_refl _)
    replace Hu := Lib.hid Hu
    generalize hn : xs.length = n at *
    replace hn := Lib.hid hn
    clear hh
    go_enter Try.func74, Try.ntmps74
    go_wp2_with (at_builtin; refine wpList_append_sl _ flatInt rfl _ _ _ rfl w.heap.size 3 i0 _ 8 Try.underlying24 I.out I0.out I1.out I2.out rfl w.heap.size 0 0 [] rfl hO lo _ xs rfl (Hu.out.below IntR.good (by go_grown)) (by rw [hn.out]; unfold maxLen; omega) (by rw [hn.out]; omega) (by simp) ?_; rw [hn.out]; intro g cap w2 hown hgrow hg)
    have hb2 : Below w.heap.size w w2 := below_grown (by go_grown) (by simp) hO hgrow
    go_returns
    refine ⟨_, rfl, ⟨?_, flatInt.wfs Hu.out⟩, hb2⟩
    rw [hn.out]
    simpa using hown

end Go.Proofs.Ytajbgkpjmgmdhaa
