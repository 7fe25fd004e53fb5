/- Parts of the proof, merged: ToOwnString, MarkOwnString, Sz, LibNeedsLaw, Open, Opens. -/
import Derived.OwnWalk
import Derived.Test.YtcjoheplilaccaaGreatRows
import Derived.Deep.Slices
import Derived.OpenShut
import Derived.Test.YtcjoheplilaccaaGreatLn42
/- What laws.toStringS makes is the call's own: printed by gen_toown.py. -/
namespace Go.Proofs.YtcjoheplilaccaaGreat
open Go.RowKit
set_option linter.unusedVariables false
set_option linter.unusedSimpArgs false
attribute [local go_sem] Ext.cell

set_option maxHeartbeats 1000000 in
theorem toStringS_o (x : List ByteArray) (u : Value) (lo : Nat) (hlen : bulkS (fun s : ByteArray => (s.size : Int)) x ≤ 1048576) (w : World) (hx : Sl StrR 1 lo w u x) :
    Calls Tryz.prog 7 #[u] w fun e w' => ∃ v, e = .returned v ∧ OwnF 9 1 strRow StrOk w.heap.size w' v x ∧ Below w.heap.size w w' := by
  have hwf := Lib.hid (flatStr.wfs hx)
  obtain ⟨a1, c1, rfl, l1, m1, hh⟩ := hx
  obtain ⟨n, hn⟩ : ∃ n, n = x.length := ⟨_, rfl⟩
  have hlen1 : x.length ≤ 1048576 := by have := length_le_bulkS (f := (fun s : ByteArray => (s.size : Int))) size_nonneg x; omega
  clear hlen
  rw [← hn] at l1 hlen1 ⊢
  have X1 := Lib.hid hn
  clear hn
  obtain ⟨i0, hi, hi0, hi1, hi2⟩ := info_parts info_StringS
  have I := Lib.hid hi; have I0 := Lib.hid hi0; have I1 := Lib.hid hi1; have I2 := Lib.hid hi2
  clear hi hi0 hi1 hi2
  go_enter Tryz.func7, Tryz.ntmps7
  go_wp2_with (at_make; refine wpList_make_full _ rfl _ _ _ rfl w.heap.size 9 i0 _ 1 Tryz.underlying22 I.out I0.out I1.out _ _ _ _ n rfl rfl rfl rfl (by rw [I2.out]; omega) (by unfold maxLen; omega) (Nat.le_refl _) ?_; intro w1 hO hgw)
  have hb1 : Below w.heap.size w w1 := (Below.refl w.heap.size w).grown (row := none) hgw (Nat.le_refl _) (by simp)
  have hs1 : w.heap.size < w1.heap.size := (own_base hO _ rfl).2
  have O1 : OwnFill 9 1 strRow w.heap.size w1 w.heap.size n 0 x := OwnFill.made hO x
  clear hO hgw
  go_loopw [4] (fun i wr => ∃ k : Nat, k ≤ n ∧ i = .int .i64 k ∧ Below w.heap.size w wr ∧ w.heap.size + 1 ≤ wr.heap.size ∧ OwnFill 9 1 strRow w.heap.size wr w.heap.size n k x) (fun i _ => n - (intOf i).toNat)
  case atStart => exact ⟨0, by omega, rfl, hb1, by omega, O1⟩
  case round =>
    clear hs1 hb1 O1
    obtain ⟨k, hk, rfl, hw, hz, hO⟩ := hrel
    by_cases hlt : k < n
    · obtain ⟨b1, o1, p, s1, _, rfl, P1, q1, r1⟩ := (hh.below StrR.good hw).get X1 hlt
      have Q1 := q1
      obtain ⟨rfl, _⟩ := q1
      have R1 : wr.cell? ⟨b1, o1 + k, none⟩ = some (.string p) := (by simpa using r1 0 _ rfl)
      clear r1
      obtain ⟨d0, e0, f0⟩ := (hO.arr (by omega)).2.2 k (by omega)
      have hO2 := Lib.hid hO; have hw2 := hw; have hz2 : wr.heap.size ≤ wr.heap.size := Nat.le_refl _
      clear hO
      go_wp2
      go_roundw
      case rel => exact ⟨k + 1, by omega, by go_num, hw2.trans (below_storeRow w.heap.size [.string p] wr (k)), Nat.le_trans hz (Nat.le_trans hz2 (Nat.le_of_eq (size_storeRow w.heap.size [.string p] wr (k)).symm)), hO2.out.step flatStr hlt (off := k) (by omega) P1.out⟩
      case measure => simp [intOf]; omega
    · replace hO := Lib.hid hO
      go_wp2
      go_returns
      obtain rfl : k = n := by omega
      exact ⟨_, rfl, hO.out.full flatStr X1.out hwf.out, hw⟩


end Go.Proofs.YtcjoheplilaccaaGreat

/- Marks of slices of String that the call owns, nil or not: printed by gen_markown.py. -/
namespace Go.Proofs.YtcjoheplilaccaaGreat
open Go.RowKit
set_option linter.unusedVariables false
set_option linter.unusedSimpArgs false
attribute [local go_sem] Ext.cell

set_option maxHeartbeats 1000000 in
theorem markStringS_nil (z : Int) (w : World) :
    Calls Tryz.prog 10 #[.slice none 0 0, .int .i64 z] w fun e w' => e = .returned (.int .i64 z) ∧ Below w.heap.size w w' := by
  go_enter Tryz.func10, Tryz.ntmps10
  go_wp2_with fail
  go_loopw [1, 5] (fun kk i wr => kk = .int .i64 z ∧ i = .int .i64 0 ∧ Below w.heap.size w wr) (fun _ _ _ => 0)
  case atStart => exact ⟨rfl, rfl, Below.refl _ _⟩
  case round =>
    obtain ⟨rfl, rfl, hw⟩ := hrel
    go_wp2
    go_returns
    exact ⟨rfl, hw⟩
set_option maxHeartbeats 1000000 in
theorem heldStringS_nil (z : Int) (w : World) :
    Calls Tryz.prog 11 #[.slice none 0 0, .int .i64 z] w fun e w' => e = .returned (.int .i64 z) ∧ Below w.heap.size w w' := by
  go_enter Tryz.func11, Tryz.ntmps11
  go_wp2_with fail
  go_loopw [1, 5] (fun kk i wr => kk = .int .i64 z ∧ i = .int .i64 0 ∧ Below w.heap.size w wr) (fun _ _ _ => 0)
  case atStart => exact ⟨rfl, rfl, Below.refl _ _⟩
  case round =>
    obtain ⟨rfl, rfl, hw⟩ := hrel
    go_wp2
    go_returns
    exact ⟨rfl, hw⟩

/-- A marked slice, nil or not. -/
def MkStrings (w : World) (v : Value) (N k : Nat) : Prop := (v = .slice none 0 0 ∧ N = 0) ∨ ∃ g cap, v = .slice (some ⟨g, 0, none⟩) N cap ∧ Mk w g 0 (N) (fun j => Value.string (markT (k + j)))
theorem MkStrings.below {w w' : World} {v : Value} {N k : Nat} (h : MkStrings w v N k) (hb : Below w.heap.size w w') : MkStrings w' v N k := by
  rcases h with h | ⟨g, cap, hv, hM⟩
  · exact .inl h
  · exact .inr ⟨g, cap, hv, hM.below hb⟩
theorem MkStrings.kept {S : Nat → Prop} {w w' : World} {v : Value} {N k : Nat} (h : MkStrings w v N k) (hk : Kept S w w') (hv : ∀ g, v.ownBlock = some g → ¬ S g) : MkStrings w' v N k := by
  rcases h with h | ⟨g, cap, rfl, hM⟩
  · exact .inl h
  · exact .inr ⟨g, cap, rfl, hM.kept hk (hv g rfl)⟩
theorem MkStrings.form {w : World} {v : Value} {N k : Nat} (h : MkStrings w v N k) : ∃ a c, v = .slice a N c := by
  rcases h with ⟨rfl, rfl⟩ | ⟨g, cap, rfl, hM⟩ <;> exact ⟨_, _, rfl⟩
theorem markStrings_c (v : Value) (N k lo : Nat) (z r : Int) (hz : z = k) (hr : r = z + (N : Int)) (hk : k + N ≤ 4611686018427387904) (xs : List Value) (w : World) (O : w.ownsRow lo 9 1 v N xs) (hlo : lo ≤ w.heap.size) :
    Calls Tryz.prog 10 #[v, .int .i64 z] w fun e w' => e = .returned (.int .i64 r) ∧ MkStrings w' v N k ∧ Below lo w w' ∧ Kept (fun q => v.ownBlock = some q) w w' := by
  subst hr
  subst hz
  have hb := own_base O
  rcases O.2 with ⟨rfl, h0⟩ | ⟨g, cap, cur, rfl, h1, h2, h3, h4, h5, h6⟩
  · have hN := O.1
    obtain rfl : N = 0 := by subst h0; simp at hN; omega
    exact (markStringS_nil k w).mono fun e w' ⟨he, hb⟩ => ⟨by rw [he]; simp, .inl ⟨rfl, rfl⟩, hb.mono hlo, Kept.below hb⟩
  · have hW : Wr w g 0 (N) := fun j hj => by
      have hjc : j < cur.size := by rw [h5]; exact Nat.lt_of_lt_of_le hj (by omega)
      refine ⟨cur[j], ?_, ?_⟩
      · rw [cell_of_row w g _ cur 9 (0, 0) h2, Nat.zero_add, Array.getElem?_eq_getElem hjc]
      · simp [World.frozen?, h2]
    refine (markStringS_c g 0 N cap k lo h1 hk w (hb g rfl).2 hW).mono fun e w' ⟨he, hM, hB, hK⟩ => ⟨by rw [he]; congr 2 <;> omega, .inr ⟨g, cap, rfl, hM⟩, hB, fun q h1 h2 => hK q h1 (fun e => h2 (by rw [e]; rfl))⟩
theorem heldStrings_c (v : Value) (N k : Nat) (z r : Int) (hz : z = k) (hr : r = z + (N : Int)) (hk : k + N ≤ 4611686018427387904) (w : World) (h : MkStrings w v N k) :
    Calls Tryz.prog 11 #[v, .int .i64 z] w fun e w' => e = .returned (.int .i64 r) ∧ Below w.heap.size w w' := by
  subst hr
  subst hz
  rcases h with ⟨rfl, rfl⟩ | ⟨g, cap, rfl, hM⟩
  · exact (heldStringS_nil k w).mono fun e w' ⟨he, hb⟩ => ⟨by rw [he]; simp, hb⟩
  · exact (heldStringS_c g 0 N cap k hk w hM).mono fun e w' ⟨he, hb⟩ => ⟨by rw [he]; congr 2 <;> omega, hb⟩

end Go.Proofs.YtcjoheplilaccaaGreat

/- The walks of the sz functions: how much a value holds, taken off a number. Printed by gen_helpers.py. -/
namespace Go.Proofs.YtcjoheplilaccaaGreat
open Go.RowKit
set_option linter.unusedVariables false
set_option linter.unusedSimpArgs false
attribute [local go_sem] Ext.cell


set_option maxHeartbeats 1000000 in
theorem szStringS_c (x : List ByteArray) (u : Value) (lo : Nat) (left : Int) (h0 : 0 ≤ left) (h1 : left ≤ 1048576) (w : World) (hx : Sl StrR 1 lo w u x) :
    Calls Tryz.prog 5 #[u, .int .i64 left] w fun e w' => ∃ n, e = .returned (.int .i64 n) ∧ SzPost (bulkS (fun s : ByteArray => (s.size : Int)) x) left n ∧ Below w.heap.size w w' := by
  obtain ⟨a1, c1, rfl, l1, m1, hh⟩ := hx
  obtain ⟨n, hn⟩ : ∃ n, n = x.length := ⟨_, rfl⟩
  rw [← hn] at l1 ⊢
  have X1 := Lib.hid hn
  clear hn
  have S0 := sum_nonneg size_nonneg x
  by_cases hl : left < n
  · clear S0
    go_enter Tryz.func5, Tryz.ntmps5
    go_wp2
    go_returns
    refine ⟨_, rfl, .inr ⟨?_, rfl⟩, Below.refl _ _⟩
    have D := X1.out
    have S0 := sum_nonneg size_nonneg x
    unfold bulkS
    omega
  · clear S0
    go_enter Tryz.func5, Tryz.ntmps5
    go_wp2_with fail
    go_loopw [1, 5] (fun l i wr => ∃ (k : Nat) (L : Int), k ≤ n ∧ i = .int .i64 k ∧ l = .int .i64 L ∧ 0 ≤ L ∧ L ≤ 1048576 ∧ Hid (L = left - n - ((x.take k).map (fun s : ByteArray => (s.size : Int))).sum) ∧ Below w.heap.size w wr) (fun _ i _ => n - (intOf i).toNat)
    case atStart => exact ⟨0, left - n, by omega, rfl, rfl, by omega, by omega, by show _ = _; simp, Below.refl _ _⟩
    case round =>
      obtain ⟨k, L, hk, rfl, rfl, hL0, hL1, hL, hw⟩ := hrel
      by_cases hlt : k < n
      · obtain ⟨b1, o1, p, s1, _, rfl, P1, q1, r1⟩ := (hh.below StrR.good hw).get X1 hlt
        obtain ⟨rfl, hp⟩ := q1
        have hp' : p.size ≤ 9223372036854775807 := hp
        have R1 : wr.cell? ⟨b1, o1 + k, none⟩ = some (.string p) := by simpa using r1 0 _ rfl
        clear r1 hp
        go_wp2
        · go_returns
          refine ⟨_, rfl, ?_, hw⟩
          have E := hL.out
          have B := sum_take (f := (fun s : ByteArray => (s.size : Int))) P1.out
          have C := sum_take_le (f := (fun s : ByteArray => (s.size : Int))) size_nonneg x (k + 1)
          have D := X1.out
          refine .inr ⟨?_, rfl⟩
          unfold bulkS
          (try dsimp only at B C E ⊢)
          omega
        · go_roundw
          case rel => exact ⟨k + 1, L - (p.size : Int), by omega, by go_num, rfl, by omega, by omega, by have E := hL.out; have B := sum_take (f := (fun s : ByteArray => (s.size : Int))) P1.out; show _ = _; (try dsimp only at B E ⊢); omega, hw⟩
          case measure => simp [intOf]; omega
      · go_wp2
        go_returns
        refine ⟨_, rfl, .inl ?_, hw⟩
        obtain rfl : k = n := by omega
        have E := hL.out
        rw [take_full X1] at E
        have D := X1.out
        unfold bulkS
        omega


end Go.Proofs.YtcjoheplilaccaaGreat

/- The law LibNeeds: the walk. -/
namespace Go.Proofs.YtcjoheplilaccaaGreat
open Go.RowKit
set_option linter.unusedVariables false
set_option linter.unusedSimpArgs false
attribute [local go_sem] Ext.cell

open Classical in
/-- The names that are needed, in the library's order. -/
noncomputable def needL (names : List ByteArray) : List ByteArray := libNames.filter fun n => decide (Rch names n)
theorem filter_of_mem {α : Type} {p q : α → Bool} : ∀ (l : List α), (∀ x ∈ l, p x = q x) → l.filter p = l.filter q
  | [], _ => rfl
  | a :: l, h => by
    rw [List.filter_cons, List.filter_cons, h a (by simp), filter_of_mem l fun x hx => h x (by simp [hx])]
open Classical in
theorem needL_impl {names met : List ByteArray} (h : NdInv names [] met) : (libNames.filter fun n => anyS met n) = needL names :=
  filter_of_mem _ fun n hn => by
    have h1 := h.done (libs_lib n hn)
    rw [Bool.eq_iff_iff, anyS_mem, decide_eq_true_iff]
    exact h1
open Classical in
theorem needL_spec {names all : List ByteArray} (h : ∀ n, n ∈ all ↔ Rch names n) : (libNames.filter fun n => anyS all n) = needL names :=
  filter_of_mem _ fun n hn => by
    rw [Bool.eq_iff_iff, anyS_mem, decide_eq_true_iff]
    exact h n
theorem needL_len (names : List ByteArray) : (needL names).length ≤ 13 := List.length_filter_le _ _
def StrPost (y : List ByteArray) (w : World) (e : Ending) (w' : World) : Prop := ∃ v, e = .returned v ∧ OwnF 9 1 strRow StrOk w.heap.size w' v y ∧ Below w.heap.size w w'
theorem implNeeds_y (names : List ByteArray) (hlen : names.length ≤ 1048576) (u : Value) (lo : Nat) (w : World) (hu : Sl StrR 1 lo w u names) : Calls Tryz.prog 8 #[u] w (StrPost (needL names) w) :=
  (LibNeeds_c names hlen u lo w hu).mono fun e w' ⟨v, met, he, hI, hO, hb⟩ => ⟨v, he, by rw [← needL_impl hI]; exact hO, hb⟩
theorem specNeeds_y (names : List ByteArray) (hlen : names.length ≤ 1048576) (u : Value) (lo : Nat) (w : World) (hu : Sl StrR 1 lo w u names) : Calls Tryz.prog 6 #[u] w (StrPost (needL names) w) :=
  (specNeeds_c names hlen u lo w hu).mono fun e w' ⟨v, all, he, hI, hO, hb⟩ => ⟨v, he, by rw [← needL_spec hI]; exact hO, hb⟩
theorem eqS_own {w : World} {lo lo' : Nat} {u v : Value} {y : List ByteArray} (h : OwnF 9 1 strRow StrOk lo w u y) (h' : OwnF 9 1 strRow StrOk lo' w v y) :
    Calls Tryz.prog 9 #[u, v] w fun e w' => e = .returned (.bool true) ∧ Below w.heap.size w w' :=
  (eqStringS_c y y u v lo lo' w (h.sl flatStr) (h'.sl flatStr)).mono fun e w' ⟨he, hb⟩ => ⟨by rw [he, decide_eq_true rfl], hb⟩

namespace fnExactLibNeeds
set_option maxRecDepth 100000 in
set_option maxHeartbeats 4000000 in
theorem law (x0 : List ByteArray) (u0 : Value) (w : World) (hx0 : Sl StrR 1 0 w u0 x0) :
    Calls Tryz.prog 3 #[u0] w fun en w' => en = .returned (.bool true) ∧ Below w.heap.size w w' := by
  have z0 : 0 ≤ bulkS (fun s : ByteArray => (s.size : Int)) x0 := bulkS_nonneg size_nonneg x0
  have Hx0 := Lib.hid hx0
  obtain ⟨ua, uc, rfl⟩ := hx0.form
  clear hx0
  go_enter Tryz.func3, Tryz.ntmps3
  go_wp2_with fail
  refine (szStringS_c x0 _ 0 _ (by omega) (by omega) _ (Hx0.out.below StrR.good (by go_grown))).mono ?_
  rintro en w1 ⟨n1, rfl, (⟨g0, rfl⟩ | ⟨g0, rfl⟩), hb⟩
  rotate_left
  · have hw1 : Below w.heap.size w w1 := Below.trans (by go_grown) (hb.mono (by go_grown))
    go_wp2
    go_returns
    exact ⟨rfl, hw1⟩
  have hw1 : Below w.heap.size w w1 := Below.trans (by go_grown) (hb.mono (by go_grown))
  have hlen : x0.length ≤ 1048576 := by have := length_le_bulkS (f := (fun s : ByteArray => (s.size : Int))) size_nonneg x0; omega
  have cT := fun W (hW : Below w.heap.size w W) => toStringS_o x0 _ 0 g0 W (Hx0.out.below StrR.good hW)
  have cS := fun v lo W hv => specNeeds_y x0 hlen v lo W hv
  have cI := fun v lo W hv => implNeeds_y x0 hlen v lo W hv
  have hny : (needL x0).length ≤ 13 := needL_len x0
  have hd : (decide ((1048576 : Int) - bulkS (fun s : ByteArray => (s.size : Int)) x0 < 0)) = false := decide_eq_false (by omega)
  generalize (1048576 : Int) - bulkS (fun s : ByteArray => (s.size : Int)) x0 = n1 at *
  clear z0 g0 hb
  generalize needL x0 = y at *
  obtain ⟨nx, hnx⟩ : ∃ n, n = x0.length := ⟨_, rfl⟩
  obtain ⟨ny, hny'⟩ : ∃ n, n = y.length := ⟨_, rfl⟩
  rw [← hnx] at hlen
  rw [← hny'] at hny
  obtain ⟨r1, hr1⟩ : ∃ r : Int, r = 1 + (nx : Int) := ⟨_, rfl⟩
  obtain ⟨r2, hr2⟩ : ∃ r : Int, r = 1 + (ny : Int) := ⟨_, rfl⟩
  have hd1 : decide (r1 < 0) = false := decide_eq_false (by omega)
  have hd2 : decide (r2 < 0) = false := decide_eq_false (by omega)
  have sx : ∀ (lo : Nat) (W : World) (v : Value), OwnF 9 1 strRow StrOk lo W v x0 → ∃ a c, v = .slice a nx c := fun _ _ _ h => by obtain ⟨a, c, rfl⟩ := h.form; rw [hnx]; exact ⟨a, c, rfl⟩
  have sy : ∀ (lo : Nat) (W : World) (v : Value), OwnF 9 1 strRow StrOk lo W v y → ∃ a c, v = .slice a ny c := fun _ _ _ h => by obtain ⟨a, c, rfl⟩ := h.form; rw [hny']; exact ⟨a, c, rfl⟩
  have cMx : ∀ (lo : Nat) (W : World) (v : Value), OwnF 9 1 strRow StrOk lo W v x0 → lo ≤ W.heap.size → Calls Tryz.prog 10 #[v, .int .i64 1] W fun e w' => e = .returned (.int .i64 r1) ∧ MkStrings w' v nx 1 ∧ Below lo W w' ∧ Kept (fun q => v.ownBlock = some q) W w' := fun lo W v h hl =>
    markStrings_c v nx 1 lo 1 r1 rfl hr1 (by omega) _ W (by have := h.1; rw [← hnx] at this; exact this) hl
  have cMy : ∀ (lo : Nat) (W : World) (v : Value), OwnF 9 1 strRow StrOk lo W v y → lo ≤ W.heap.size → Calls Tryz.prog 10 #[v, .int .i64 1] W fun e w' => e = .returned (.int .i64 r2) ∧ MkStrings w' v ny 1 ∧ Below lo W w' ∧ Kept (fun q => v.ownBlock = some q) W w' := fun lo W v h hl =>
    markStrings_c v ny 1 lo 1 r2 rfl hr2 (by omega) _ W (by have := h.1; rw [← hny'] at this; exact this) hl
  have cHy : ∀ (W : World) (v : Value), MkStrings W v ny 1 → Calls Tryz.prog 11 #[v, .int .i64 1] W fun e w' => e = .returned (.int .i64 r2) ∧ Below W.heap.size W w' := fun W v h =>
    heldStrings_c v ny 1 1 r2 rfl hr2 (by omega) W h
  replace cT := Lib.hid cT; replace cS := Lib.hid cS; replace cI := Lib.hid cI; replace cMx := Lib.hid cMx; replace cMy := Lib.hid cMy; replace cHy := Lib.hid cHy
  replace hnx := Lib.hid hnx; replace hny' := Lib.hid hny'; replace hr1 := Lib.hid hr1; replace hr2 := Lib.hid hr2; replace hlen := Lib.hid hlen; replace hny := Lib.hid hny; replace sx := Lib.hid sx; replace sy := Lib.hid sy
  -- the reference
  go_wp2_with fail
  refine (cT.out _ hw1).mono ?_
  rintro e w2 ⟨v2, rfl, O2, hb2⟩
  obtain ⟨a2, c2, rfl⟩ := sx.out _ _ _ O2
  have hw2 := hw1.trans (hb2.mono hw1.size)
  clear hb2
  go_wp2_with fail
  refine (cS.out _ _ _ (O2.sl flatStr)).mono ?_
  rintro e w3 ⟨v3, rfl, S, hb3⟩
  obtain ⟨a3, c3, rfl⟩ := sy.out _ _ _ S
  have hSb := S.base
  have hw3 := hw2.trans (hb3.mono hw2.size)
  clear hb3 O2
  -- the argument's copy; the program
  go_wp2_with fail
  refine (cT.out _ hw3).mono ?_
  rintro e w4 ⟨v4, rfl, X, hb⟩
  obtain ⟨a4, c4, rfl⟩ := sx.out _ _ _ X
  have hXb := X.base
  replace S := S.below hb
  have hw4 := hw3.trans (hb.mono hw3.size)
  have hz4 := hb.size
  clear hb
  go_wp2_with fail
  refine (cI.out _ _ _ (X.sl flatStr)).mono ?_
  rintro e w5 ⟨v5, rfl, G, hb⟩
  obtain ⟨a5, c5, rfl⟩ := sy.out _ _ _ G
  have hGb := G.base
  replace S := S.below hb
  replace X := X.below hb
  have hw5 := hw4.trans (hb.mono hw4.size)
  have hz5 := hb.size
  clear hb
  go_wp2_with fail
  refine (eqS_own G S).mono ?_
  rintro e w6 ⟨rfl, hb⟩
  replace S := S.below hb
  replace X := X.below hb
  replace G := G.below hb
  have hw6 := hw5.trans (hb.mono hw5.size)
  have hz6 := hb.size
  clear hb
  go_wp2_with fail
  refine (cT.out _ hw6).mono ?_
  rintro e w7 ⟨v7, rfl, T7, hb⟩
  obtain ⟨a7, c7, rfl⟩ := sx.out _ _ _ T7
  replace S := S.below hb
  replace X := X.below hb
  replace G := G.below hb
  have hw7 := hw6.trans (hb.mono hw6.size)
  have hz7 := hb.size
  clear hb
  go_wp2_with fail
  refine (eqS_own X T7).mono ?_
  rintro e w8 ⟨rfl, hb⟩
  replace S := S.below hb
  replace X := X.below hb
  replace G := G.below hb
  have hw8 := hw7.trans (hb.mono hw7.size)
  have hz8 := hb.size
  clear hb T7
  have hw1z := hw1.size
  have hw3z := hw3.size
  -- the argument's copy is marked
  go_wp2_with fail
  refine (cMx.out _ _ _ X (by omega)).mono ?_
  rintro e w9 ⟨rfl, MX, hb, hK⟩
  replace S := S.kept hK (fun g hg e => by have h1 := hSb g hg; have h2 := hXb g e; omega)
  replace G := G.kept hK (fun g hg e => by have h1 := hGb g hg; have h2 := hXb g e; omega)
  have hw9 := hw8.trans (hb.mono hw3z)
  have hz9 := hb.size
  clear hb hK MX X
  go_wp2_with fail
  refine (eqS_own G S).mono ?_
  rintro e w10 ⟨rfl, hb⟩
  replace S := S.below hb
  replace G := G.below hb
  have hw10 := hw9.trans (hb.mono hw9.size)
  have hz10 := hb.size
  have hw4z := hw4.size
  clear hb
  -- the result is marked
  go_wp2_with fail
  refine (cMy.out _ _ _ G (by omega)).mono ?_
  rintro e w11 ⟨rfl, M, hb, hK⟩
  replace S := S.kept hK (fun g hg e => by have h1 := hSb g hg; have h2 := hGb g e; omega)
  have hw11 := hw10.trans (hb.mono hw4z)
  clear hb hK G
  go_wp2_with fail
  refine (cHy.out _ _ M).mono ?_
  rintro e w12 ⟨rfl, hb⟩
  replace S := S.below hb
  replace M := M.below hb
  have hw12 := hw11.trans (hb.mono hw11.size)
  clear hb
  -- a second call
  go_wp2_with fail
  refine (cT.out _ hw12).mono ?_
  rintro e w13 ⟨v13, rfl, T13, hb⟩
  obtain ⟨a13, c13, rfl⟩ := sx.out _ _ _ T13
  replace S := S.below hb
  replace M := M.below hb
  have hw13 := hw12.trans (hb.mono hw12.size)
  clear hb
  go_wp2_with fail
  refine (cI.out _ _ _ (T13.sl flatStr)).mono ?_
  rintro e w14 ⟨v14, rfl, H, hb⟩
  obtain ⟨a14, c14, rfl⟩ := sy.out _ _ _ H
  replace S := S.below hb
  replace M := M.below hb
  have hw14 := hw13.trans (hb.mono hw13.size)
  clear hb T13
  go_wp2_with fail
  refine (eqS_own H S).mono ?_
  rintro e w15 ⟨rfl, hb⟩
  replace M := M.below hb
  have hw15 := hw14.trans (hb.mono hw14.size)
  clear hb H S
  go_wp2_with fail
  refine (cHy.out _ _ M).mono ?_
  rintro e w16 ⟨rfl, hb⟩
  have hw16 := hw15.trans (hb.mono hw15.size)
  clear hb M
  go_wp2_with fail
  go_returns
  exact ⟨rfl, hw16⟩
end fnExactLibNeeds
end Go.Proofs.YtcjoheplilaccaaGreat

/- From the form's own reading of an argument to ours. -/
namespace Go.Proofs.YtcjoheplilaccaaGreat
open Go.RowKit
set_option linter.unusedVariables false

def Opens {α : Type} (P : Program) (t : TypeId) (R : Reading α) : Prop := ∀ (H : Type) (enc : TypeId × Value → H) (w : World) (spare : Nat → Bool) (held : Bool) (fuel : Nat) (cs : List Value) (x : DataW H × List MemPlace),
  DataW.trod enc P w 0 spare held fuel t cs = some x → ∃ y, R 0 w cs y

def SlR {α : Type} (R : Reading α) (sz : Nat) : Reading (List α) := fun lo w r xs => ∃ v, r = [v] ∧ Sl R sz lo w v xs

theorem opens_int {P : Program} {t : TypeId} (ht : P.underlying t = some (.int .i64)) : Opens P t IntR := by
  intro H enc w spare held fuel cs x h
  obtain ⟨n, rfl, _, hw⟩ := DataW.trod_int ht h
  exact ⟨n, rfl, bounds_i64 hw⟩

theorem opens_string {P : Program} {t : TypeId} (ht : P.underlying t = some .string) : Opens P t StrR := by
  intro H enc w spare held fuel cs x h
  obtain ⟨n, rfl, _, hw⟩ := DataW.trod_string ht h
  exact ⟨n, rfl, by unfold StrOk; unfold maxLen at hw; omega⟩

theorem opens_bool {P : Program} {t : TypeId} (ht : P.underlying t = some .bool) : Opens P t BoolR := by
  intro H enc w spare held fuel cs x h
  obtain ⟨n, rfl, _⟩ := DataW.trod_bool ht h
  exact ⟨n, rfl⟩

theorem opens_byte {P : Program} {t : TypeId} (ht : P.underlying t = some (.int .u8)) : Opens P t ByteR := by
  intro H enc w spare held fuel cs x h
  obtain ⟨n, rfl, _, hw⟩ := DataW.trod_int ht h
  have hb := bounds_u8 hw
  exact ⟨UInt8.ofNat n.toNat, by
    have h1 : (UInt8.ofNat n.toNat).toNat = n.toNat := by
      rw [UInt8.toNat_ofNat']; exact Nat.mod_eq_of_lt (by omega)
    show [Value.int .u8 n] = _
    rw [h1, Int.toNat_of_nonneg hb.1]⟩

theorem list_of {α : Type} {p : Nat → α → Prop} : ∀ (n : Nat), (∀ i, i < n → ∃ y, p i y) → ∃ l : List α, l.length = n ∧ ∀ i y, l[i]? = some y → p i y
  | 0, _ => ⟨[], rfl, fun i y h => by simp at h⟩
  | n + 1, h => by
    obtain ⟨l, hl, hp⟩ := list_of n (fun i hi => h i (by omega))
    obtain ⟨y, hy⟩ := h n (by omega)
    refine ⟨l ++ [y], by simp [hl], fun i z hz => ?_⟩
    rcases Nat.lt_trichotomy i n with hi | hi | hi
    · rw [List.getElem?_append_left (by omega)] at hz
      exact hp i z hz
    · subst hi
      rw [List.getElem?_append_right (by omega), hl] at hz
      simp at hz
      exact hz ▸ hy
    · rw [List.getElem?_eq_none (by simp; omega)] at hz
      cases hz

theorem add_none (b off n : Nat) : (⟨b, off, none⟩ : Addr).add n = ⟨b, off + n, none⟩ := by
  unfold Addr.add
  split
  · subst_vars; rfl
  · rfl

theorem opens_slice {α : Type} {P : Program} {t e : TypeId} {R : Reading α} {sz : Nat} (ht : P.underlying t = some (.slice e)) (hc : P.cellsOf e = sz) (hsz : 0 < sz) (hO : Opens P e R) : Opens P t (SlR R sz) := by
  intro H enc w spare held fuel cs x h
  rcases Deep.open_slice ht h with ⟨rfl, _⟩ | ⟨a, len, cap, m, n, D, Pl, rfl, _, hl, hm, hmm, _, hel⟩
  · exact ⟨[], _, rfl, Sl.nil⟩
  have hlm : len ≤ m := by rw [hmm]; split <;> omega
  rw [hc] at hel
  obtain ⟨xs, hxl, hxs⟩ := list_of (p := fun i y => ∃ cs', w.cells? 0 (a.add (i * sz)) sz = some cs' ∧ R 0 w cs' y) len (fun i hi => by
    obtain ⟨cs', h1, h2⟩ := hel i (by omega)
    obtain ⟨y, hy⟩ := hO H enc w spare held n cs' _ h2
    exact ⟨y, cs', h1, hy⟩)
  subst hxl
  refine ⟨xs, _, rfl, some a, cap, rfl, hl, by unfold maxLen at hm; omega, fun hne => ?_⟩
  have hspot : a.spot = none := by
    obtain ⟨cs', h1, _⟩ := hxs 0 xs[0] (by simp)
    obtain ⟨_, h3, h4⟩ := World.cells?_some h1
    have h5 := h4 0 (by omega)
    have h6 : ∃ v, w.cell? (a.add (0 * sz) |>.add 0) = some v := by
      obtain ⟨v, hv⟩ : ∃ v, cs'[0]? = some v := ⟨cs'[0]'(by omega), by simp⟩
      exact ⟨v, by rw [h5, hv]⟩
    obtain ⟨v, hv⟩ := h6
    have h7 := World.cell?_spot hv
    simpa [Addr.add] using h7
  obtain ⟨b, off, sp⟩ := a
  simp only at hspot
  subst hspot
  refine ⟨b, off, Nat.zero_le _, rfl, fun i y hy => ?_⟩
  obtain ⟨cs', h1, h2⟩ := hxs i y hy
  obtain ⟨_, h3, h4⟩ := World.cells?_some h1
  refine ⟨cs', h2, fun j c hjc => ?_⟩
  have hj : j < sz := by
    have := (List.getElem?_eq_some_iff.1 hjc).1
    omega
  have h5 := h4 j hj
  rw [add_none, add_none] at h5
  rw [h5, hjc]

theorem list_len1 {α : Type} {l : List α} (h : l.length = 1) : ∃ a, l = [a] := by
  match l, h with | [a], _ => exact ⟨a, rfl⟩
theorem list_len2 {α : Type} {l : List α} (h : l.length = 2) : ∃ a b, l = [a, b] := by
  match l, h with | [a, b], _ => exact ⟨a, b, rfl⟩
theorem list_len3 {α : Type} {l : List α} (h : l.length = 3) : ∃ a b c, l = [a, b, c] := by
  match l, h with | [a, b, c], _ => exact ⟨a, b, c, rfl⟩
theorem list_len4 {α : Type} {l : List α} (h : l.length = 4) : ∃ a b c d, l = [a, b, c, d] := by
  match l, h with | [a, b, c, d], _ => exact ⟨a, b, c, d, rfl⟩
theorem list_len6 {α : Type} {l : List α} (h : l.length = 6) : ∃ a b c d e f, l = [a, b, c, d, e, f] := by
  match l, h with | [a, b, c, d, e, f], _ => exact ⟨a, b, c, d, e, f, rfl⟩
theorem list_len9 {α : Type} {l : List α} (h : l.length = 9) : ∃ a b c d e f g i j, l = [a, b, c, d, e, f, g, i, j] := by
  match l, h with | [a, b, c, d, e, f, g, i, j], _ => exact ⟨a, b, c, d, e, f, g, i, j, rfl⟩

/-- A struct argument. -/
theorem open_struct {α : Type} {H : Type} {enc : TypeId × Value → H} {P : Program} {t : TypeId} {fs : Array Field} {R : Reading α} {w : World} {base : Nat} {v : Value} {d : DataW H} {spare : Nat → Bool} {held : Bool} {ps : List MemPlace}
    (hs : P.underlying t = some (.struct fs)) (hO : Opens P t R) (hv : Value.okWide P w .any base t v) (h : DataW.Trod enc P w 0 spare held t v d ps) : ∃ r x, v = .agg r.toArray ∧ R 0 w r x := by
  unfold Value.okWide at hv
  rw [hs] at hv
  obtain ⟨cs, rfl, _, _⟩ := hv
  obtain ⟨fuel, hf⟩ := h
  obtain ⟨x, hx⟩ := hO H enc w spare held fuel _ _ hf
  exact ⟨cs.toList, x, by simp, hx⟩

/-- A slice argument. -/
theorem open_slice_arg {α : Type} {H : Type} {enc : TypeId × Value → H} {P : Program} {t e : TypeId} {R : Reading α} {sz : Nat} {w : World} {base : Nat} {v : Value} {d : DataW H} {spare : Nat → Bool} {held : Bool} {ps : List MemPlace}
    (hs : P.underlying t = some (.slice e)) (hO : Opens P t (SlR R sz)) (hv : Value.okWide P w .any base t v) (h : DataW.Trod enc P w 0 spare held t v d ps) : ∃ xs, Sl R sz 0 w v xs := by
  obtain ⟨a, len, cap, rfl⟩ := Go.WideShapes.okWide_slice hs hv
  obtain ⟨fuel, hf⟩ := h
  obtain ⟨xs, u, hu, hx⟩ := hO H enc w spare held fuel _ _ hf
  simp [Value.cells] at hu
  subst hu
  exact ⟨xs, hx⟩

end Go.Proofs.YtcjoheplilaccaaGreat

/- How the laws' arguments open. Printed by gen_open.py. -/
namespace Go.Proofs.YtcjoheplilaccaaGreat
open Go.RowKit
set_option linter.unusedVariables false
set_option linter.unusedSimpArgs false

theorem opens_int_ : Opens Tryz.prog 3 IntR := opens_int Tryz.underlying3
theorem cells_int : Tryz.prog.cellsOf 3 = 1 := by kernel_rfl

theorem cells_S_int : Tryz.prog.cellsOf 56 = 1 := by kernel_rfl
theorem opens_S_int : Opens Tryz.prog 56 (SlR IntR 1) := opens_slice Tryz.underlying56 cells_int (by decide) opens_int_

theorem opens_str_ : Opens Tryz.prog 9 StrR := opens_string Tryz.underlying9
theorem cells_str : Tryz.prog.cellsOf 9 = 1 := by kernel_rfl

theorem cells_S_str : Tryz.prog.cellsOf 22 = 1 := by kernel_rfl
theorem opens_S_str : Opens Tryz.prog 22 (SlR StrR 1) := opens_slice Tryz.underlying22 cells_str (by decide) opens_str_

end Go.Proofs.YtcjoheplilaccaaGreat
