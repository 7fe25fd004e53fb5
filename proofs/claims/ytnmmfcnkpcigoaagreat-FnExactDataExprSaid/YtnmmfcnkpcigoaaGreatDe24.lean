/- Parts of the proof, merged: Node. -/
import Derived.Test.YtnmmfcnkpcigoaaGreatDe23
/- A program's node: when it is right; arity; the name's closure. -/
namespace Go.Proofs.YtnmmfcnkpcigoaaGreat
open Go.RowKit
set_option linter.unusedVariables false
set_option linter.unusedSimpArgs false
attribute [local go_sem] Ext.cell

def asD (x : GNode) : GDNode := ⟨x.kind, x.n, x.s, x.kids⟩
def nkind (N : List GNode) (k : Int) : Int := if 0 ≤ k then (N[k.toNat]?.map (·.kind)).getD 0 else 0
def firstK (N : List GNode) (ks : List Int) : Int := match ks with
  | k :: _ => nkind N k
  | [] => 0
def arP (k : Int) : Int := if k = 1 ∨ k = 2 ∨ k = 3 ∨ k = 12 then 0 else if k = 5 ∨ k = 14 ∨ k = 16 ∨ k = 17 then 1 else if k = 6 ∨ k = 7 ∨ k = 8 ∨ k = 10 ∨ k = 11 ∨ k = 15 ∨ k = 18 ∨ k = 19 then 2 else if k = 9 then 3 else -1
def nodBad (x : GNode) : Bool := (decide (x.at_ < 0) || (decide (0 ≤ arP x.kind) && ((x.kids.length : Int) != arP x.kind))) || ((x.kind != 13 && decide (0 < (x.pats.length : Int))) || ((x.kind != 1 && x.kind != 3) && (x.n != 0)))
def nameN (x : GNode) : Bool := nameOk x.s && x.n == 0
def nodBody (N : List GNode) (x : GNode) : Bool :=
  if x.kind = 1 then decide (0 ≤ x.n ∧ x.n ≤ 4611686018427387903) && x.s.toList.isEmpty
  else if x.kind = 2 then true
  else if x.kind = 3 ∨ x.kind = 5 ∨ x.kind = 7 ∨ x.kind = 15 then nameN x
  else if x.kind = 8 then nameN x && firstK N x.kids == 5
  else if x.kind = 10 then primOk x.s
  else if x.kind = 4 then conShape x.s x.kids.length ((x.kids.length : Int) == 1 && firstK N x.kids == 11)
  else if x.kind = 6 ∨ x.kind = 9 ∨ x.kind = 11 ∨ x.kind = 12 ∨ x.kind = 14 ∨ x.kind = 16 ∨ x.kind = 17 ∨ x.kind = 18 ∨ x.kind = 19 then x.s.toList.isEmpty
  else if x.kind = 13 then x.s.toList.isEmpty && (decide (1 ≤ (x.pats.length : Int)) && (x.kids.length : Int) == (x.pats.length : Int) + 1)
  else false
def nodOk (N : List GNode) (x : GNode) : Bool := !nodBad x && nodBody N x

theorem kind19 (k : Int) : k = 1 ∨ k = 2 ∨ k = 3 ∨ k = 4 ∨ k = 5 ∨ k = 6 ∨ k = 7 ∨ k = 8 ∨ k = 9 ∨ k = 10 ∨ k = 11 ∨ k = 12 ∨ k = 13 ∨ k = 14 ∨ k = 15 ∨ k = 16 ∨ k = 17 ∨ k = 18 ∨ k = 19 ∨ (k < 1 ∨ 19 < k) := by omega
theorem kindOut {k : Int} (h : k < 1 ∨ 19 < k) : ∀ j : Int, 1 ≤ j → j ≤ 19 → (k == j) = false := fun j h1 h2 => by rw [beq_eq_false_iff_ne]; omega
theorem arP_out {k : Int} (h : k < 1 ∨ 19 < k) : arP k = -1 := by
  unfold arP
  rw [if_neg (by omega), if_neg (by omega), if_neg (by omega), if_neg (by omega)]

set_option maxRecDepth 100000 in
set_option maxHeartbeats 4000000 in
theorem arity_c (k : Int) (w : World) : Calls Tryz.prog 107 #[.int .i64 k] w fun e w' => e = .returned (.int .i64 (arP k)) ∧ w = w' := by
  rcases kind19 k with rfl | rfl | rfl | rfl | rfl | rfl | rfl | rfl | rfl | rfl | rfl | rfl | rfl | rfl | rfl | rfl | rfl | rfl | rfl | h
  case inr.inr.inr.inr.inr.inr.inr.inr.inr.inr.inr.inr.inr.inr.inr.inr.inr.inr.inr =>
    rw [arP_out h]
    have hj := kindOut h
    have n1 := hj 1 (by omega) (by omega); have n2 := hj 2 (by omega) (by omega); have n3 := hj 3 (by omega) (by omega); have n4 := hj 4 (by omega) (by omega); have n5 := hj 5 (by omega) (by omega); have n6 := hj 6 (by omega) (by omega); have n7 := hj 7 (by omega) (by omega); have n8 := hj 8 (by omega) (by omega); have n9 := hj 9 (by omega) (by omega); have n10 := hj 10 (by omega) (by omega); have n11 := hj 11 (by omega) (by omega); have n12 := hj 12 (by omega) (by omega); have n13 := hj 13 (by omega) (by omega); have n14 := hj 14 (by omega) (by omega); have n15 := hj 15 (by omega) (by omega); have n16 := hj 16 (by omega) (by omega); have n17 := hj 17 (by omega) (by omega); have n18 := hj 18 (by omega) (by omega); have n19 := hj 19 (by omega) (by omega)
    clear hj h
    go_enter Tryz.func107, Tryz.ntmps107
    go_wp2_with fail
    go_returns
    exact ⟨rfl, rfl⟩
  all_goals
    go_enter Tryz.func107, Tryz.ntmps107
    go_wp2_with fail
    go_returns
    exact ⟨rfl, rfl⟩
set_option maxRecDepth 100000 in
set_option maxHeartbeats 4000000 in
theorem l04Kids_c (k : Int) (w : World) : Calls Tryz.prog 73 #[.int .i64 k] w fun e w' => e = .returned (.int .i64 (arP k)) ∧ w = w' := by
  rcases kind19 k with rfl | rfl | rfl | rfl | rfl | rfl | rfl | rfl | rfl | rfl | rfl | rfl | rfl | rfl | rfl | rfl | rfl | rfl | rfl | h
  case inr.inr.inr.inr.inr.inr.inr.inr.inr.inr.inr.inr.inr.inr.inr.inr.inr.inr.inr =>
    rw [arP_out h]
    have hj := kindOut h
    have n1 := hj 1 (by omega) (by omega); have n2 := hj 2 (by omega) (by omega); have n3 := hj 3 (by omega) (by omega); have n4 := hj 4 (by omega) (by omega); have n5 := hj 5 (by omega) (by omega); have n6 := hj 6 (by omega) (by omega); have n7 := hj 7 (by omega) (by omega); have n8 := hj 8 (by omega) (by omega); have n9 := hj 9 (by omega) (by omega); have n10 := hj 10 (by omega) (by omega); have n11 := hj 11 (by omega) (by omega); have n12 := hj 12 (by omega) (by omega); have n13 := hj 13 (by omega) (by omega); have n14 := hj 14 (by omega) (by omega); have n15 := hj 15 (by omega) (by omega); have n16 := hj 16 (by omega) (by omega); have n17 := hj 17 (by omega) (by omega); have n18 := hj 18 (by omega) (by omega); have n19 := hj 19 (by omega) (by omega)
    clear hj h
    go_enter Tryz.func73, Tryz.ntmps73
    go_wp2_with fail
    go_returns
    exact ⟨rfl, rfl⟩
  all_goals
    go_enter Tryz.func73, Tryz.ntmps73
    go_wp2_with fail
    go_returns
    exact ⟨rfl, rfl⟩

set_option maxRecDepth 100000 in
set_option maxHeartbeats 4000000 in
theorem nameN_c (kd at_ nn : Int) (s : ByteArray) (u0 u1 : Value) (hs : StrOk s) (w : World) : Calls Tryz.prog 51 #[.agg #[.int .i64 kd, .int .i64 at_, .int .i64 nn, .string s, u0, u1]] w fun e w' => e = .returned (.bool (nameOk s && nn == 0)) ∧ Below w.heap.size w w' := by
  have cN := fun W => impl_NameOk_c s hs W
  generalize nameOk s = q at *
  cases q <;> cases e1 : (nn == 0)
  all_goals
    go_enter Tryz.func51, Tryz.ntmps51
    go_upto_region 1 with fail
    have D : RowAt (w.alloc (.cells #[.int .i64 kd, .int .i64 at_, .int .i64 nn, .string s, u0, u1] 47)) (w.heap.size) 0 [.int .i64 kd, .int .i64 at_, .int .i64 nn, .string s, u0, u1] := RowAt.box w #[.int .i64 kd, .int .i64 at_, .int .i64 nn, .string s, u0, u1] 47
    have hw : Below w.heap.size w (w.alloc (.cells #[.int .i64 kd, .int .i64 at_, .int .i64 nn, .string s, u0, u1] 47)) := by go_grown
    generalize (w.alloc (.cells #[.int .i64 kd, .int .i64 at_, .int .i64 nn, .string s, u0, u1] 47)) = w0 at *
    obtain ⟨d_0, d_1, d_2, d_3, d_4, d_5⟩ := D.box6; have hsD := World.block_lt_of_cell? _ _ d_0; dsimp only at hsD
    go_wp2_with (go_at_call 52; ((with_reducible refine (cN _).mono ?_); rintro e w1 ⟨rfl, hb⟩; have hw := hw.trans (hb.mono hw.size); have D := D.below hb; obtain ⟨d_0, d_1, d_2, d_3, d_4, d_5⟩ := D.box6; have hsD := World.block_lt_of_cell? _ _ d_0; dsimp only at hsD; clear hb))
    go_returns
    exact ⟨rfl, hw⟩
end Go.Proofs.YtnmmfcnkpcigoaaGreat
